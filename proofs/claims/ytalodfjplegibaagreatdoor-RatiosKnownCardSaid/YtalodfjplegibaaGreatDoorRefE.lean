/- Plain law: the same certificate as RatL's, for logarithms with 480 binary places. The numbers are printed by genlat.py. Plain law: the sign of a product of powers of six primes is shown by the reference's bounds of logarithms with 480 binary places, or the product is 1. No program in sight. The reference of chapter 04: square. (Printed by gensq.py.) The reference of chapter 04: halve. (Printed by genhalve.py.) The reference of chapter 04: log. -/
import Derived.Test.YtalodfjplegibaaGreatDoorRatL
import Derived.Test.YtalodfjplegibaaGreatDoorRatE
import Derived.Test.YtalodfjplegibaaGreatDoorRefA
import Derived.Test.YtalodfjplegibaaGreatDoorRatB
namespace Go.Proofs.YtalodfjplegibaaGreatDoor
set_option linter.unusedSimpArgs false
set_option linter.unusedVariables false

/-- the logarithms of 3, 5, 7, 11, 13 to the base 2, times 2^480, rounded down -/
def lam480_3 : Nat := 4947854388931479101035780990625877806042694652369686656863028429234826296790576805792123258191663971034272291305177138070518686117029192304765412
def lam480_5 : Nat := 7248475664152597062599843917842213025399219579198707473794311270572988558050383415343407524812483552439162539121166566760492312275195292048263989
def lam480_7 : Nat := 8763856158155790984982104218941701466538532598823150099849672043992164553714999603494344089147469221157293171994636238978000751228972852597014109
def lam480_11 : Nat := 10799475640398289201944590364167323712305281752346275004416995854867172040544511277481062710082762365134763561465220175509461309015929056471924486
def lam480_13 : Nat := 11551842325638673350763609758047132688729213278490596589982640894512639207650198349690378581753818378174325775647465828322357283244564952250345633
def one480 : Nat := 3121748550315992231381597229793166305748598142664971150859156959625371738819765620120306103063491971159826931121406622895447975679288285306290176
def latV480 : List (List Int) := [[0, 1, 0, 0, 0, 0], [0, 0, 1, 0, 0, 0], [0, 0, 0, 1, 0, 0], [0, 0, 0, 0, 1, 0], [0, 0, 0, 0, 0, 1], [(one480 : Int), (lam480_3 : Int), (lam480_5 : Int), (lam480_7 : Int), (lam480_11 : Int), (lam480_13 : Int)]]
def latX480 : List (List Int) := [[106859932629681049215006502720580492585514110574081548451616251314066346068166151337754699247855588518955578518958993346, 169368986047633550932064329749961494341029142537226856275114601394257362866405164484080513762607679161299027889627842750, 248121079790627207143258178353992636024529102821698418292073956165143783617309539011188016136569062953260174341325165586, 299993757838679067844314491673261108987804048661958624412352360020562718210229300463040988857756085935845086601434938730, 369674629704570048772352094149069964220428371612909244203519275148178877289781703401938538157741799945332742757303777554, 395428738980753038941702337140798000916773487703176457688309429001246377069261618584699787770575554938727607527834792295], [358759010689283018343087198885007635907918995833718465238942462275447916854478156927697566282807274440656877231389691539, 568619578738334014171409798241151318394087791961070389712248432518441204926235344071287217693247095584948866958496906460, 833012626213441783052806702194305441525449791391546308588166336860236644929409333077686653020104919800204556450819981507, 1007163874491075286794002210212046762780726510488652276505060806129995920253911834788902042844199890083267689352848656656, 1241102265049541780555627853162643686171999460907966453761414846332097492352834317906289919252449476314451492629398532974, 1327566092395627521899656566670913677157519747962194109787606015615974437389790740598830038139333489672725065132395069742], [-209930285488974824532314739301157495388980657496805858012332297365554927271709039458459606775262682545672832684757845023, -332731630265711783382521248094911110581904808979501463225947641808601387401583928673396747610482567597023765728626752354, -487443027844575403360885153253860874088460908732241843552619849731290984128898555919903693568021963997985797278124166412, -589348820256431497105510329486762540249720735990749573873558337129601766856819566018992954493310958783350439703463837917, -726239467330114093328364287108474673693846825863944198096566578197289255484351819768261809975071352968922656166860660369, -776834366464101009313817343759449822254609206791667533910868613895637279521624186220752853454559019350401376564903279830], [-213827293407309926785766569073487878267466632058302816655039328412734644898159151957482637927573883281886264458048987375, -338908241681286334237389420317203768737066893719590276152495645391410368666306836943054801791925736266032375457264406647, -496491600016156193085620727654249460676395111415573924429121010328162040569013545040428426188563474974433720536557172745, -600289104617267004124941595708997763772405346302929294288959865904721939058624592391167222385699766394642435473387714675, -739720899740882460436960748789146235548920291886874221139586713857684200554402151209534775735855800248219182595764170216, -791255009347018559392363182485250363190934814463462960120666339336963971241843253696822141876801244740953623115178428882], [-2073750786776729812831687214761683384357852318532317305659074961517204098677057201807857240853798705298736496365678417732, -3286817232882110824648836310620285941695820866353223014412323196194758225356508150618119601679336659874191615889764067733, -4815100213611661024913377370725658351165765022119255913518878368739010233490652557127658050218349168335011363517391799809, -5821754478378481518246531008514812618081471597267913944255323477011048225607494995970757038208153344976797410490160369738, -7173999040949391107607241132405770783123676446642167045060059677028238031996539353177223335637823533825306558304041700312, -7673789776914950176188000219453530733887644570169256347385357906369519791539536409658569687782772382331987778625241435914], [-780171949478017118026244214604968111174606448277476136441090844434802634334821569575579285981717282395287386743329452204, -1236543284037177530392557260733124047741172190916961753458255995183588491735592811104113721564482675780109240122108763415, -1811503168336051794589427771927517836950151854420270342307540582582616162481519728954011862562161945733993700713344280583, -2190219562418387795892173977094122539200212582553735484817043578688060360592634696391601433182212381714204977514021833849, -2698951509998152456811275388251096547831565632052834506710772882559448202320126141783631886095440130482814449491072170434, -2886979268828020057261054267840229329657134586400614017434167608183097576769475662401933912531055753827217468830785937759]]
def latA480 : List (List Int) := [[-1326251990326146369275251988627208489612142447024125098841638154585683889434629347199997735545406748244604439569801124552, -96605482398170873655825863077693873495006948854616161279559874691556957657612932816623762734561098713956071127737334058, 1222803910567545569623913586216372722065012517563109600059629101893736377768506735810610772675851032159312041474161797766, 2850617395863087356754860732689689305084420967134840547356778429578909680707182642249658449605195606156271028636591039348, -3082849973041880195864071388754107106000372959033579552104065087323793132187840654785212529594098656446681593576288164098, 106859932629681049215006502720580492585514110574081548451616251314066346068166151337754699247855588518955578518958993346], [-1370022935650037479643187259190349590403601407396292628330264465606479182482517110091650151565907433453258881887347312108, -1599867069001959727386608513960695732288632777638757407019519454702863815851586049941750835640970901734389843940055913839, -1823648693335472889888953330663758720045976611590220870333376548087425765794979616376626739357513235647700186645411112295, 556330567624229156293404395158455680859499828077154899619507663996359222997857630867138676155677446521209448599507139470, 2683837340648395780776833012760533746410595842707438292823747877471434350805714347722013198733172951708685440756803755405, 358759010689283018343087198885007635907918995833718465238942462275447916854478156927697566282807274440656877231389691539], [-1566819937051408967203524510926828889245225333646161125743075200223228688783240210556236865921561540675792026932148329828, 233238061713701184189885585257261275425123567233966728703723862848049576493765200525596495960911105667812169515669008235, -212391951376897069221577521435019083294204054450716458808066134159852900750496233336917387071810728151521130747066973885, -1230011425188371491140696254273778188307484854458609415850907187675979964829179238170862634487926021223031679861950301766, -932188935658530542707110952839230548863136220612203953294483203665176362057673361905308739827290324977260066492109115521, -209930285488974824532314739301157495388980657496805858012332297365554927271709039458459606775262682545672832684757845023], [-274353939468677336044159400468993876927726708168569136572289145469256791654243503831947125696743198844674118631920526372, -5435480876155032390490688885176416122658150789217083578564516436224589410092935446027344776974726418854897411000314245, 1676879673930362976597589351654498998140289397721577780720965894102729980684146867862235571410609399649863578756994341075, 877353194095671557549637217794052395146798198417550260157288030788487742984252510990656117938504313136157040819814766234, 1914215551431049849099394986624470024532289161409368270973884973797031674500723019336487817262980207039737240065732120143, -213827293407309926785766569073487878267466632058302816655039328412734644898159151957482637927573883281886264458048987375], [298031285214374101445679712829836553278468433608453589777567196532411258060886133920628428268509472116763277374184594576, 37150596030768241517851252033896137492641486038839415466870630247693968154365709818250674934073409670286509885499276564, -211937517817274611140511160050867162885452155628177882336399740333567779223779415693956079714373935101186734838477313100, 117879807332801624060000993858466624757264343959270948752859501523026603720656479438036773050380554308536437501565650840, -335420675925569977216083618146811229554382840820266344160327273813618746156918219582195566204247812889002213113035816508, -2073750786776729812831687214761683384357852318532317305659074961517204098677057201807857240853798705298736496365678417732], [314821213410515912598896216521467175722521918163243543333547087744714346501370801807452907893052464839597830008163657008, 1292606071634749197461817886101758469664175829344710457382094218809326379005450897784277153476079515213932206669189429148, -1343296392669300747938042375425998574172154539196159762207510796612060954775060199420782968093158358159433138513423821188, 491064739355378146973085732125181160181286581463341643725089987779297141690507538629704036976309864992432633883102410760, -60962688591437678462028804589829178952266837460007516457949008210587803700792916272599609000693652424251617961975530452, -780171949478017118026244214604968111174606448277476136441090844434802634334821569575579285981717282395287386743329452204]]
def latW480 : List (List Int) := [[-150664821418373498644427, 1374839864160394762679106, 2773181310219051476327168, -6590568366600436853819523, 2326469908925395457871698, -4512228359231267384653521], [-291698792957964405614201, -381205289606926318138673, -1328112873495114682853986, -553765153400599227411737, 209255275921441514537229, -262318865116082161412367], [-117382133022163156412683, -547778415854317009186731, 609135474016192503451438, 776997946715880417526693, -862011332508392334142896, 1646449143157049995080949], [25123285750523867108595, -501097386597396475387612, 156690482959035643005652, 808948295439905322278378, 57939563838245709113817, -644870722184989589985847], [587428816460267642829594, 287435899985756213359060, -692703761537073390658829, 210250172939824861538585, -70030835797142888181753, 527552415818210860269788], [-328920493702414220186721, 246903547154483707957488, -34067703538383981953522, 720395719120353869320524, -155925624874980888617710, 294669545425546228475048]]
def latD480 : Nat := 3121748550315992231381597229793166305748598142664971150859156959625371738819765620120306103063491971159826931121406622895447975679288285306290176
def latU480 : List (List Int) := [[1, 0, 0, 0, 0, 0], [0, 1, 0, 0, 0, 0], [0, 0, 1, 0, 0, 0], [0, 0, 0, 1, 0, 0], [0, 0, 0, 0, 1, 0], [0, 0, 0, 0, 0, 1]]
theorem cert480 : Cert latD480 1152921504606846976 latV480 latX480 latA480 latW480 latU480 := ⟨rfl, by decide +kernel, by decide +kernel, by decide +kernel⟩
/-- whole multiples of them that are not too great have no sum near 0 -/
theorem lattice480 (e2 e3 e5 e7 e11 e13 : Int) (h3 : e3.natAbs ≤ 1152921504606846976) (h5 : e5.natAbs ≤ 1152921504606846976) (h7 : e7.natAbs ≤ 1152921504606846976) (h11 : e11.natAbs ≤ 1152921504606846976) (h13 : e13.natAbs ≤ 1152921504606846976)
    (hs : (one480 * e2 + lam480_3 * e3 + lam480_5 * e5 + lam480_7 * e7 + lam480_11 * e11 + lam480_13 * e13 : Int).natAbs ≤ 1152921504606846976) : e2 = 0 ∧ e3 = 0 ∧ e5 = 0 ∧ e7 = 0 ∧ e11 = 0 ∧ e13 = 0 := by
  have h := cert480.zero [e2, e3, e5, e7, e11, e13] (by
    intro z hz
    simp only [mv, latV480, List.map_cons, List.map_nil, dot, List.mem_cons, List.not_mem_nil, or_false, Int.zero_mul, Int.one_mul, Int.zero_add, Int.add_zero] at hz
    rcases hz with rfl | rfl | rfl | rfl | rfl | rfl
    · exact h3
    · exact h5
    · exact h7
    · exact h11
    · exact h13
    · rw [show (one480 * e2 + (lam480_3 * e3 + (lam480_5 * e5 + (lam480_7 * e7 + (lam480_11 * e11 + lam480_13 * e13)))) : Int) = one480 * e2 + lam480_3 * e3 + lam480_5 * e5 + lam480_7 * e7 + lam480_11 * e11 + lam480_13 * e13 by simp only [Int.add_assoc]]
      exact hs)
  have z0 := h 0 (by decide)
  have z1 := h 1 (by decide)
  have z2 := h 2 (by decide)
  have z3 := h 3 (by decide)
  have z4 := h 4 (by decide)
  have z5 := h 5 (by decide)
  simp [latU480, dot] at z0 z1 z2 z3 z4 z5
  exact ⟨z0, z1, z2, z3, z4, z5⟩
end Go.Proofs.YtalodfjplegibaaGreatDoor
namespace Go.Proofs.YtalodfjplegibaaGreatDoor
set_option linter.unusedSimpArgs false
set_option linter.unusedVariables false

/-- the reference's bounds of the logarithm of n to the base 2, times 2^P -/
def lgr (n P : Nat) : Nat × Nat :=
  if n = 2 ^ (Go.Lib.bitLen n - 1) then ((Go.Lib.bitLen n - 1) * 2 ^ P, (Go.Lib.bitLen n - 1) * 2 ^ P)
  else lgL (2 ^ (2 * P + 60)) P (n * 2 ^ (2 * P + 60 - (Go.Lib.bitLen n - 1))) (n * 2 ^ (2 * P + 60 - (Go.Lib.bitLen n - 1))) (Go.Lib.bitLen n - 1)
theorem lgr_bd {n P : Nat} (h : 0 < n) (h2 : n < 2 ^ 64) (hk : Go.Lib.bitLen n - 1 ≤ 2 * P + 60) : Bd n P (lgr n P) := by
  obtain ⟨b1, b2⟩ := bitLen_bounds h h2
  unfold lgr
  generalize Go.Lib.bitLen n - 1 = k at *
  split
  · rename_i he
    unfold Bd
    simp only []
    rw [Nat.pow_mul, ← he]
    exact ⟨Nat.le_refl _, Nat.le_refl _⟩
  · have e1 : n * 2 ^ (2 * P + 60 - k) * 2 ^ k = n ^ 2 ^ 0 * 2 ^ (2 * P + 60) := by
      rw [Nat.mul_assoc, ← Nat.pow_add, Nat.sub_add_cancel hk, Nat.pow_zero, Nat.pow_one]
    have := lgL_bd (n := n) (D := 2 ^ (2 * P + 60)) (Nat.pow_pos (by decide)) P 0 (n * 2 ^ (2 * P + 60 - k)) (n * 2 ^ (2 * P + 60 - k)) k (Nat.le_of_eq e1) (Nat.le_of_eq e1.symm)
      (by
        have : 2 ^ k * 2 ^ (2 * P + 60 - k) = 2 ^ (2 * P + 60) := by rw [← Nat.pow_add]; congr 1; omega
        rw [← this]
        exact Nat.mul_le_mul_right _ b1)
      (by
        have : 2 * 2 ^ (2 * P + 60) = 2 ^ (k + 1) * 2 ^ (2 * P + 60 - k) := by rw [← Nat.pow_add, ← Nat.pow_succ']; congr 1; omega
        rw [this]
        exact Nat.mul_lt_mul_of_pos_right b2 (Nat.pow_pos (by decide)))
    rwa [Nat.zero_add] at this
/-- the difference of the sums of the lower bounds -/
def B480 (n : Nat) : Nat × Nat := lgr n 480
theorem lgr480 : B480 2 = (one480, one480) ∧ B480 3 = (lam480_3, lam480_3 + 1) ∧ B480 5 = (lam480_5, lam480_5 + 1) ∧ B480 7 = (lam480_7, lam480_7 + 1) ∧ B480 11 = (lam480_11, lam480_11 + 1) ∧ B480 13 = (lam480_13, lam480_13 + 1) := by
  unfold B480
  decide +kernel
/-- the difference of the lower sums is a sum of the exponents of the six primes -/
theorem low_diff480 : ∀ l : List (Nat × Int), (∀ x ∈ l, x.1 ∈ primes6) → ((sumB B480 l).1.1 : Int) - (sumB B480 l).2.1 = one480 * esum 2 l + lam480_3 * esum 3 l + lam480_5 * esum 5 l + lam480_7 * esum 7 l + lam480_11 * esum 11 l + lam480_13 * esum 13 l
  | [], _ => by simp [sumB, esum]
  | (n, k) :: l, h => by
    have ih := low_diff480 l fun x hx => h x (List.mem_cons_of_mem _ hx)
    have hn := h _ List.mem_cons_self
    have hk : ∀ c : Nat, (((sumB B480 l).1.1 : Int) - (sumB B480 l).2.1) + (c : Int) * k = if 0 ≤ k then (((sumB B480 l).1.1 + c * k.natAbs : Nat) : Int) - (sumB B480 l).2.1 else ((sumB B480 l).1.1 : Int) - (((sumB B480 l).2.1 + c * k.natAbs : Nat) : Int) := by
      intro c
      split
      · rename_i h0
        obtain ⟨j, rfl⟩ := Int.eq_ofNat_of_zero_le h0
        simp only [Int.ofNat_eq_natCast, Int.natAbs_natCast, Int.natCast_add, Int.natCast_mul]
        omega
      · rename_i h0
        obtain ⟨j, rfl⟩ : ∃ j : Nat, k = -(j : Int) := ⟨k.natAbs, by omega⟩
        simp only [Int.natAbs_neg, Int.natAbs_natCast, Int.natCast_add, Int.natCast_mul, Int.mul_neg]
        omega
    have hs : ((sumB B480 ((n, k) :: l)).1.1 : Int) - (sumB B480 ((n, k) :: l)).2.1 = (((sumB B480 l).1.1 : Int) - (sumB B480 l).2.1) + ((B480 n).1 : Int) * k := by
      rw [hk, sumB]
      split <;> simp only []
    rw [hs, ih]
    simp only [esum]
    obtain ⟨b2, b3, b5, b7, b11, b13⟩ := lgr480
    simp only [primes6, List.mem_cons, List.not_mem_nil, or_false] at hn
    rcases hn with rfl | rfl | rfl | rfl | rfl | rfl
    · rw [b2]; simp [Int.mul_add]; omega
    · rw [b3]; simp [Int.mul_add]; omega
    · rw [b5]; simp [Int.mul_add]; omega
    · rw [b7]; simp [Int.mul_add]; omega
    · rw [b11]; simp [Int.mul_add]; omega
    · rw [b13]; simp [Int.mul_add]; omega
/-- both bounds are near to each other -/
theorem width480 : ∀ l : List (Nat × Int), (∀ x ∈ l, x.1 ∈ primes6) → (sumB B480 l).1.2 + (sumB B480 l).2.2 ≤ (sumB B480 l).1.1 + (sumB B480 l).2.1 + tot l ∧ (sumB B480 l).1.1 ≤ (sumB B480 l).1.2 ∧ (sumB B480 l).2.1 ≤ (sumB B480 l).2.2
  | [], _ => by simp [sumB, tot]
  | (n, k) :: l, h => by
    obtain ⟨h1, h2, h3⟩ := width480 l fun x hx => h x (List.mem_cons_of_mem _ hx)
    have hn := h _ List.mem_cons_self
    have hb : (B480 n).2 ≤ (B480 n).1 + 1 ∧ (B480 n).1 ≤ (B480 n).2 := by
      obtain ⟨b2, b3, b5, b7, b11, b13⟩ := lgr480
      simp only [primes6, List.mem_cons, List.not_mem_nil, or_false] at hn
      rcases hn with rfl | rfl | rfl | rfl | rfl | rfl
      · rw [b2]; simp only []; omega
      · rw [b3]; simp only []; omega
      · rw [b5]; simp only []; omega
      · rw [b7]; simp only []; omega
      · rw [b11]; simp only []; omega
      · rw [b13]; simp only []; omega
    have hm1 : (B480 n).2 * k.natAbs ≤ (B480 n).1 * k.natAbs + k.natAbs := by
      have := Nat.mul_le_mul_right k.natAbs hb.1
      rw [Nat.add_mul, Nat.one_mul] at this
      exact this
    have hm2 := Nat.mul_le_mul_right k.natAbs hb.2
    rw [sumB, tot]
    split <;> simp only [] <;> omega
/-- with 480 places the sign is shown, or the product is 1 -/
theorem decided480 {l : List (Nat × Int)} (h : ∀ x ∈ l, x.1 ∈ primes6) (ht : tot l ≤ 1152921504606846976) (hg : guessG (sumB B480 l) = none) : up l = down l := by
  obtain ⟨w1, w2, w3⟩ := width480 l h
  have hd := low_diff480 l h
  unfold guessG at hg
  split at hg
  · cases hg
  · rename_i c1
    split at hg
    · cases hg
    · rename_i c2
      have hs : ((sumB B480 l).1.1 : Int) - (sumB B480 l).2.1 ≤ 1152921504606846976 ∧ -1152921504606846976 ≤ ((sumB B480 l).1.1 : Int) - (sumB B480 l).2.1 := by omega
      rw [hd] at hs
      have hz := lattice480 (esum 2 l) (esum 3 l) (esum 5 l) (esum 7 l) (esum 11 l) (esum 13 l) (Nat.le_trans (esum_le _ _) ht) (Nat.le_trans (esum_le _ _) ht) (Nat.le_trans (esum_le _ _) ht) (Nat.le_trans (esum_le _ _) ht) (Nat.le_trans (esum_le _ _) ht) (by omega)
      rw [← cop6.one_iff (fun x hx => Gen.of (h x hx))]
      intro b hb
      rw [expo6 hb h]
      simp only [primes6, List.mem_cons, List.not_mem_nil, or_false] at hb
      rcases hb with rfl | rfl | rfl | rfl | rfl | rfl
      · exact hz.1
      · exact hz.2.1
      · exact hz.2.2.1
      · exact hz.2.2.2.1
      · exact hz.2.2.2.2.1
      · exact hz.2.2.2.2.2
end Go.Proofs.YtalodfjplegibaaGreatDoor
namespace Go.Proofs.YtalodfjplegibaaGreatDoor
set_option linter.unusedSimpArgs false
open Go.RowKit
set_option linter.unusedVariables false

theorem C.len_mul (a b : Nat) : (C.limbs (a * b)).length ≤ (C.limbs a).length + (C.limbs b).length := by
  refine C.limbs_len_le ?_
  rw [Nat.pow_add]
  exact Nat.mul_lt_mul'' (C.lt_limbs_len a) (C.lt_limbs_len b)
/-- a square, rounded -/
def sqS (up : Bool) (x D : Nat) : Nat := if up then cdiv x D else x / D
end Go.Proofs.YtalodfjplegibaaGreatDoor
namespace Go.Proofs.YtalodfjplegibaaGreatDoor
set_option linter.unusedSimpArgs false
open Go.RowKit
set_option linter.unusedVariables false

/-- the half of a number, limb by limb -/
def hvF (l : List Nat) (j : Nat) : Nat := (32768 * (l[j+1]?.getD 0 % 2) + l[j]?.getD 0) / 2
theorem hvF_sum (l : List Nat) : ∀ n, 2 * C.sumF (hvF l) n + l[0]?.getD 0 % 2 = C.valOf (l.take n) + C.LB ^ n * (l[n]?.getD 0 % 2)
  | 0 => by simp [C.sumF, C.valOf]
  | n+1 => by
    have ih := hvF_sum l n
    rw [C.sumF]
    have ht : C.valOf (l.take (n+1)) = C.valOf (l.take n) + C.LB ^ n * l[n]?.getD 0 := by
      rcases Nat.lt_or_ge n l.length with h | h
      · exact C.valOf_take_succ l n h
      · rw [List.take_of_length_le h, List.take_of_length_le (Nat.le_succ_of_le h), List.getElem?_eq_none h]; simp
    rw [ht]
    have hf : 2 * hvF l n + l[n]?.getD 0 % 2 = C.LB * (l[n+1]?.getD 0 % 2) + l[n]?.getD 0 := by
      unfold hvF; rw [C.LB_eq]; omega
    have h2 : C.LB ^ n * (2 * hvF l n + l[n]?.getD 0 % 2) = C.LB ^ n * (C.LB * (l[n+1]?.getD 0 % 2) + l[n]?.getD 0) := by rw [hf]
    rw [Nat.mul_add, Nat.mul_add, Nat.mul_left_comm] at h2
    rw [Nat.pow_succ, Nat.mul_assoc]
    generalize C.LB ^ n * (C.LB * (l[n+1]?.getD 0 % 2)) = p1 at *
    generalize C.LB ^ n * hvF l n = p2 at *
    generalize C.LB ^ n * (l[n]?.getD 0 % 2) = p3 at *
    generalize C.LB ^ n * l[n]?.getD 0 = p4 at *
    omega
theorem hvF_lt (l : List Nat) (h : ∀ j : Nat, l[j]?.getD 0 ≤ 32767) (j : Nat) : hvF l j ≤ 32767 := by
  have := h j
  unfold hvF
  omega
theorem hvF_half (a : Nat) : C.sumF (hvF (C.limbs a)) (C.limbs a).length = a / 2 := by
  have h := hvF_sum (C.limbs a) (C.limbs a).length
  rw [List.take_of_length_le (Nat.le_refl _), C.valOf_limbs, List.getElem?_eq_none (Nat.le_refl _)] at h
  simp at h
  omega
theorem map_getD (f : Nat → Nat) {n j : Nat} (h : j < n) : ((List.range n).map f)[j]?.getD 0 = f j := by
  rw [List.getElem?_map, List.getElem?_range h]; rfl
theorem hv_trim (a : Nat) : C.trimN ((List.range (C.limbs a).length).map (hvF (C.limbs a))) = C.limbs (a / 2) := by
  rw [C.trimN_limbs]
  · congr 1
    rw [← C.list_sum (n := (C.limbs a).length) (by simp), ← hvF_half a]
    exact C.sumF_congr _ fun j hj => map_getD _ hj
  · intro x hx
    obtain ⟨j, _, rfl⟩ := List.mem_map.1 hx
    have := hvF_lt (C.limbs a) (C.lim_le a) j
    rw [C.LB_eq]; omega
theorem cdiv_two (a : Nat) : cdiv a 2 = (a + 1) / 2 := by
  unfold cdiv
  split <;> omega
/-- a half, rounded -/
def hvS (up : Bool) (a : Nat) : Nat := if up then cdiv a 2 else a / 2
end Go.Proofs.YtalodfjplegibaaGreatDoor
namespace Go.Proofs.YtalodfjplegibaaGreatDoor
set_option linter.unusedSimpArgs false
open Go.RowKit
set_option linter.unusedVariables false

theorem C.len_pow {x K : Nat} (h : x < 2 ^ (15 * K)) : (C.limbs x).length ≤ K := C.limbs_len_le (by rw [C.LB_pow]; exact h)
theorem C.len_le_pow {x E K : Nat} (h : x < 2 ^ E) (hE : E ≤ 15 * K) : (C.limbs x).length ≤ K := C.len_pow (Nat.lt_of_lt_of_le h (Nat.pow_le_pow_right (by decide) hE))
theorem lg_c {b D : Nat} (hD : 0 < D) (h4 : b < 2 * D) : cdiv (b * b) D ≤ 4 * D - 3 := by
  have hb : b * b + 4 * D ≤ 4 * D * D + 1 := by
    obtain ⟨c, hc⟩ : ∃ c, 2 * D = b + 1 + c := ⟨2 * D - b - 1, by omega⟩
    have e1 : (2 * D) * (2 * D) = (b + 1 + c) * (b + 1 + c) := by rw [hc]
    have e2 : (b + 1 + c) * (b + 1 + c) = b * b + 2 * b + 1 + 2 * b * c + 2 * c + c * c := by
      simp only [Nat.add_mul, Nat.mul_add, Nat.one_mul, Nat.mul_one, Nat.two_mul]
      have := Nat.mul_comm b c
      omega
    have e3 : (2 * D) * (2 * D) = 4 * D * D := by
      rw [Nat.mul_assoc 2 D, Nat.mul_left_comm D 2 D, ← Nat.mul_assoc, Nat.mul_assoc 4]
    omega
  refine cdiv_le hD ?_
  have : (4 * D - 3) * D + 3 * D = 4 * D * D := by
    rw [← Nat.add_mul]; congr 1; omega
  omega
theorem lg_half {b D : Nat} (hD : 0 < D) (h4 : b < 2 * D) : cdiv (cdiv (b * b) D) 2 < 2 * D := by
  have hc1 := lg_c hD h4
  have hc2 : cdiv (cdiv (b * b) D) 2 ≤ 2 * D - 1 := cdiv_le (by decide) (by omega)
  omega
theorem lg_d {a D : Nat} (hD : 0 < D) (h : a < 2 * D) : a * a / D < 4 * D := by
  have h1 := lg_c hD h
  have h2 : a * a / D ≤ cdiv (a * a) D := Nat.le_add_right _ _
  omega
theorem lg_low {a D : Nat} (hD : 0 < D) (h : a < 2 * D) : a * a / D / 2 < 2 * D := by
  have := lg_d hD h
  omega
theorem sq_false (x D : Nat) : sqS false x D = x / D := rfl
theorem sq_true (x D : Nat) : sqS true x D = cdiv x D := rfl
theorem hv_false (x : Nat) : hvS false x = x / 2 := rfl
theorem hv_true (x : Nat) : hvS true x = cdiv x 2 := rfl
theorem pow_more {s i : Nat} (h : s < 2 ^ (i + 6)) : 2 * s < 2 ^ (i + 1 + 6) ∧ 2 * s + 1 < 2 ^ (i + 1 + 6) := by
  have e : (2 : Nat) ^ (i + 1 + 6) = 2 ^ (i + 6) * 2 := by rw [← Nat.pow_succ]
  rw [e]
  generalize (2 : Nat) ^ (i + 6) = z at *
  omega
theorem cmpN_ge0 {a b : Nat} : (0 ≤ cmpN a b) ↔ b ≤ a := by
  rcases Nat.lt_trichotomy a b with h | rfl | h
  · rw [cmpN_lt h]; omega
  · rw [cmpN_eq]; omega
  · rw [cmpN_gt h]; omega
theorem cmpN_lt0 {a b : Nat} : (cmpN a b < 0) ↔ a < b := by
  rcases Nat.lt_trichotomy a b with h | rfl | h
  · rw [cmpN_lt h]; omega
  · rw [cmpN_eq]; omega
  · rw [cmpN_gt h]; omega
theorem shr_pos {n k j : Nat} (h1 : 2 ^ k ≤ n) (h2 : n < 2 ^ (k + 1)) (hj : j ≤ k) : (j < k → 0 < n / 2 ^ (j + 1)) ∧ (j = k → n / 2 ^ (j + 1) = 0) := by
  refine ⟨fun h => Nat.div_pos (Nat.le_trans (Nat.pow_le_pow_right (by decide) h) h1) (Nat.pow_pos (by decide)), fun h => ?_⟩
  subst h
  exact Nat.div_eq_of_lt h2
end Go.Proofs.YtalodfjplegibaaGreatDoor
