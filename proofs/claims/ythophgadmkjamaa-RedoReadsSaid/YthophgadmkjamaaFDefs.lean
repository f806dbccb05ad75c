/- THE PLAIN DATA: jobs, bytes, devices, as lists of cells. -/
import Derived.Test.YthophgadmkjamaaFOps3
namespace Go.Mw
open Go

theorem wrap_in {a : Int} (h : -9223372036854775808 ≤ a ∧ a ≤ 9223372036854775807) : IntKind.i64.wrap a = a := by
  simp only [IntKind.wrap, IntKind.bits, IntKind.signed]
  simp
  omega

theorem bnot_t {b : Bool} (h : (!b) = true) : b = false := by simpa using h
theorem bnot_f {b : Bool} (h : (!b) = false) : b = true := by simpa using h

structure Job where
  nodes : Int
  pages : Int
  frames : Int
  log : Int
  patience : Int
def jobL (j : Job) : List Value := [.int .i64 j.nodes, .int .i64 j.pages, .int .i64 j.frames, .int .i64 j.log, .int .i64 j.patience]
def jobV (j : Job) : Value := .agg (List.toArray (jobL j))
def Job.may (j : Job) : Bool := decide (2 ≤ j.nodes ∧ j.nodes ≤ 8 ∧ 1 ≤ j.pages ∧ j.pages ≤ 16 ∧ 1 ≤ j.frames ∧ j.frames ≤ 16 ∧ 2 ≤ j.log ∧ j.log ≤ 64 ∧ 2 ≤ j.patience ∧ j.patience ≤ 100)

theorem job_mul {j : Job} (h : 2 ≤ j.nodes ∧ j.nodes ≤ 8 ∧ 1 ≤ j.pages ∧ j.pages ≤ 16 ∧ 1 ≤ j.frames ∧ j.frames ≤ 16 ∧ 2 ≤ j.log ∧ j.log ≤ 64 ∧ 2 ≤ j.patience ∧ j.patience ≤ 100) :
    0 ≤ j.nodes * (1 + 2 * j.log) ∧ j.nodes * (1 + 2 * j.log) ≤ 1032 := by
  obtain ⟨h1, h2, _, _, _, _, h3, h4, _⟩ := h
  have : j.nodes = 2 ∨ j.nodes = 3 ∨ j.nodes = 4 ∨ j.nodes = 5 ∨ j.nodes = 6 ∨ j.nodes = 7 ∨ j.nodes = 8 := by omega
  rcases this with e | e | e | e | e | e | e <;> rw [e] <;> omega

theorem job_mul2 {j : Job} {n : Int} (h : 2 ≤ j.nodes ∧ j.nodes ≤ 8 ∧ 1 ≤ j.pages ∧ j.pages ≤ 16 ∧ 1 ≤ j.frames ∧ j.frames ≤ 16 ∧ 2 ≤ j.log ∧ j.log ≤ 64 ∧ 2 ≤ j.patience ∧ j.patience ≤ 100) (h0 : 0 ≤ n) (h1 : n ≤ j.nodes) :
    0 ≤ n * (1 + 2 * j.log) ∧ n * (1 + 2 * j.log) ≤ j.nodes * (1 + 2 * j.log) :=
  ⟨Int.mul_nonneg h0 (by omega), Int.mul_le_mul_of_nonneg_right h1 (by omega)⟩
theorem job_mul3 {j : Job} {n : Int} (h : 2 ≤ j.nodes ∧ j.nodes ≤ 8 ∧ 1 ≤ j.pages ∧ j.pages ≤ 16 ∧ 1 ≤ j.frames ∧ j.frames ≤ 16 ∧ 2 ≤ j.log ∧ j.log ≤ 64 ∧ 2 ≤ j.patience ∧ j.patience ≤ 100) (h0 : 0 ≤ n) (h1 : n < j.nodes) :
    0 ≤ n * (1 + 2 * j.log) ∧ n * (1 + 2 * j.log) + (1 + 2 * j.log) ≤ j.nodes * (1 + 2 * j.log) := by
  refine ⟨Int.mul_nonneg h0 (by omega), ?_⟩
  have := Int.mul_le_mul_of_nonneg_right (c := 1 + 2 * j.log) (show n + 1 ≤ j.nodes from h1) (by omega)
  rw [Int.add_mul] at this
  omega
/-- Where things lie. -/
def Job.secs (j : Job) : Int := 9 + j.nodes * (1 + 2 * j.log) + 2 * j.pages
def Job.head (j : Job) (n : Int) : Int := 9 + n * (1 + 2 * j.log)
def Job.slot (j : Job) (n lsn : Int) : Int := j.head n + 1 + 2 * ((lsn - 1) % j.log)
theorem mod_log {j : Job} {a : Int} (h : 0 < j.log) : 0 ≤ a % j.log ∧ a % j.log < j.log := ⟨Int.emod_nonneg _ (by omega), Int.emod_lt_of_pos _ h⟩

/-- Bytes as cells. -/
def bys (l : List Int) : List Value := l.map fun b => .int .u8 b
def By (l : List Int) : Prop := ∀ b ∈ l, 0 ≤ b ∧ b ≤ 255
theorem bys_length (l : List Int) : (bys l).length = l.length := by simp [bys]
theorem bys_append (a b : List Int) : bys (a ++ b) = bys a ++ bys b := by simp [bys]
theorem bys_one {l : List Int} : ∀ v ∈ bys l, v.oneCell' = true := by
  intro v hv
  simp only [bys, List.mem_map] at hv
  obtain ⟨b, _, rfl⟩ := hv
  rfl
theorem bys_replicate (n : Nat) : bys (List.replicate n 0) = List.replicate n (.int .u8 0) := by simp [bys]
theorem bys_inj {a b : List Int} (h : bys a = bys b) : a = b := by
  induction a generalizing b with
  | nil => cases b with
    | nil => rfl
    | cons _ _ => simp [bys] at h
  | cons x a ih => cases b with
    | nil => simp [bys] at h
    | cons y b =>
      simp only [bys, List.map_cons, List.cons.injEq, Value.int.injEq, true_and] at h
      rw [h.1, ih h.2]
theorem nth_bys {l : List Int} {i : Nat} (h : i < l.length) : nth (bys l) i = some (.int .u8 (l.getD i 0)) := by
  rw [nth_eq, bys, List.getElem?_map, List.getElem?_eq_getElem h]
  simp [h]
theorem By.get {l : List Int} (h : By l) (i : Nat) : 0 ≤ l.getD i 0 ∧ l.getD i 0 ≤ 255 := by
  by_cases hi : i < l.length
  · rw [List.getD_eq_getElem?_getD, List.getElem?_eq_getElem hi]; exact h _ (List.getElem_mem hi)
  · rw [List.getD_eq_getElem?_getD, List.getElem?_eq_none (by omega)]; simp
theorem alike_bys : ∀ {a b : List Int}, a.length = b.length → alike (List.replicate a.length true) (bys a) (bys b) = true
  | [], [], _ => rfl
  | x :: a, y :: b, h => by
    simp only [List.length_cons, Nat.succ.injEq] at h
    simp only [List.length_cons, List.replicate_succ, bys, List.map_cons, alike, alike1, Bool.and_eq_true]
    exact ⟨by simp, alike_bys h⟩
theorem eqvs_bys : ∀ {a b : List Int}, a.length = b.length → eqvs (bys a) (bys b) = decide (a = b)
  | [], [], _ => rfl
  | x :: a, y :: b, h => by
    simp only [List.length_cons, Nat.succ.injEq] at h
    have ih := eqvs_bys h
    simp only [bys] at ih ⊢
    simp only [List.map_cons, eqvs, eqv, ih, List.cons.injEq, Bool.decide_and]
    rfl

theorem XK.norTo {c : Cx} {R : Post} {ρ : Env} {ds : List Deferred} {L : List Blk} (h : R .normal ρ ds L) : XK c R [] ρ ds L := h
def ones (l : List Value) : Bool := l.all (·.oneCell')
theorem ones_of {l : List Value} (h : ones l = true) : ∀ v ∈ l, v.oneCell' = true := by simpa [ones] using h
theorem one_app {a b : List Value} (ha : ∀ v ∈ a, v.oneCell' = true) (hb : ∀ v ∈ b, v.oneCell' = true) : ∀ v ∈ a ++ b, v.oneCell' = true := by
  intro v hv
  rcases List.mem_append.1 hv with h | h
  · exact ha v h
  · exact hb v h

section
variable {c : Cx} {ρ : Env} {L : List Blk} {od : Option Nat} {ty : TypeId} {pos : String} {af : Array Edge}
theorem OV.eqBy {T yt : TypeId} {x y : Operand} {n : Nat} {a b : List Int} (hx : evE ρ x = .agg (List.toArray (bys a))) (hy : evE ρ y = .agg (List.toArray (bys b))) (hfl : Flat c.P 8 T (List.replicate n true)) (hag : ∀ w, (isAgg T).run c.P w = .ok true w) (hg : c.P.eqGuardType c.P.depth T = false) (ha : a.length = n) (hb : b.length = n) :
    OV c ρ L ⟨od, .binOp .eql T x y yt, ty, pos, af, none⟩ (.bool (decide (a = b))) := by
  subst ha
  have := OV.eqA (od := od) (ty := ty) (pos := pos) (af := af) (L := L) (yt := yt) hx hy hfl hag hg (alike_bys hb.symm)
  rwa [eqvs_bys hb.symm] at this
theorem OV.neBy {T yt : TypeId} {x y : Operand} {n : Nat} {a b : List Int} (hx : evE ρ x = .agg (List.toArray (bys a))) (hy : evE ρ y = .agg (List.toArray (bys b))) (hfl : Flat c.P 8 T (List.replicate n true)) (hag : ∀ w, (isAgg T).run c.P w = .ok true w) (hg : c.P.eqGuardType c.P.depth T = false) (ha : a.length = n) (hb : b.length = n) :
    OV c ρ L ⟨od, .binOp .neq T x y yt, ty, pos, af, none⟩ (.bool (!decide (a = b))) := by
  subst ha
  have := OV.neA (od := od) (ty := ty) (pos := pos) (af := af) (L := L) (yt := yt) hx hy hfl hag hg (alike_bys hb.symm)
  rwa [eqvs_bys hb.symm] at this
end

/-- Numbers of four bytes. -/
def b4 (n : Int) : List Int := [n / 16777216 % 256, n / 65536 % 256, n / 256 % 256, n % 256]
def t4 (l : List Int) (o : Nat) : Int := l.getD o 0 * 16777216 + l.getD (o + 1) 0 * 65536 + l.getD (o + 2) 0 * 256 + l.getD (o + 3) 0
theorem b4_By (n : Int) : By (b4 n) := by
  intro b hb
  simp only [b4, List.mem_cons, List.not_mem_nil, or_false] at hb
  rcases hb with rfl | rfl | rfl | rfl <;> omega
theorem sh_u8 (n : Int) (k : Nat) (d : Int) (hd : (2 : Int) ^ (min k 64) = d) (h0 : 0 < d) : IntKind.u8.wrap (n.fdiv (2 ^ (min k IntKind.i64.bits))) = n / d % 256 := by
  rw [IntKind.wrap_u8, show IntKind.i64.bits = 64 from rfl, hd, Int.fdiv_eq_ediv_of_nonneg _ (Int.le_of_lt h0)]
theorem wraps_i64 (n : Int) (h₀ : 0 ≤ n) (h₁ : n < 2 ^ 63) : IntKind.i64.wrap n = n := by rw [IntKind.wrap_i64]; omega
theorem or_i64 (i : Nat) (x y : Int) (hx₀ : 0 ≤ x) (hx : x % 2 ^ i = 0) (hx₁ : x < 2 ^ 63) (hy₀ : 0 ≤ y) (hy : y < 2 ^ i) (hy₁ : y < 2 ^ 63) : bits .or .i64 x y = x + y :=
  bits_join .i64 63 (by decide) wraps_i64 i x y hx₀ hx hx₁ hy₀ hy hy₁
theorem bits_or_comm (k : IntKind) (x y : Int) : bits .or k x y = bits .or k y x := by
  simp only [bits, BitVec.or_comm]

theorem cvt_byte {a : Int} (h : 0 ≤ a ∧ a ≤ 255) : IntKind.i64.wrap a = a := wrap_in (by omega)
theorem shl_byte {a : Int} (h : 0 ≤ a ∧ a ≤ 255) (k : Nat) (d : Int) (hd : (2 : Int) ^ (min k 64) = d) (h0 : 0 ≤ d ∧ d ≤ 16777216) : IntKind.i64.wrap (a * 2 ^ (min k IntKind.i64.bits)) = a * d := by
  rw [show IntKind.i64.bits = 64 from rfl, hd]
  have h1 : 0 ≤ a * d := Int.mul_nonneg h.1 h0.1
  have h2 : a * d ≤ 255 * d := Int.mul_le_mul_of_nonneg_right h.2 h0.1
  exact wrap_in (by omega)
theorem or_b1 {a b : Int} (ha : 0 ≤ a ∧ a ≤ 255) (hb : 0 ≤ b ∧ b ≤ 255) : bits .or .i64 (a * 16777216) (b * 65536) = a * 16777216 + b * 65536 := or_i64 24 _ _ (by omega) (by omega) (by omega) (by omega) (by omega) (by omega)
theorem or_b2 {a b c : Int} (ha : 0 ≤ a ∧ a ≤ 255) (hb : 0 ≤ b ∧ b ≤ 255) (hc : 0 ≤ c ∧ c ≤ 255) : bits .or .i64 (a * 16777216 + b * 65536) (c * 256) = a * 16777216 + b * 65536 + c * 256 := or_i64 16 _ _ (by omega) (by omega) (by omega) (by omega) (by omega) (by omega)
theorem or_b3 {a b c d : Int} (ha : 0 ≤ a ∧ a ≤ 255) (hb : 0 ≤ b ∧ b ≤ 255) (hc : 0 ≤ c ∧ c ≤ 255) (hd : 0 ≤ d ∧ d ≤ 255) : bits .or .i64 (a * 16777216 + b * 65536 + c * 256) d = a * 16777216 + b * 65536 + c * 256 + d := or_i64 8 _ _ (by omega) (by omega) (by omega) (by omega) (by omega) (by omega)
theorem set_b4 {l : List Value} {a a1 a2 a3 : Nat} (n : Int) (h : a + 4 ≤ l.length) (h1 : a1 = a + 1) (h2 : a2 = a + 2) (h3 : a3 = a + 3) :
    ((((l.set a (.int .u8 (n / 16777216 % 256))).set a1 (.int .u8 (n / 65536 % 256))).set a2 (.int .u8 (n / 256 % 256))).set a3 (.int .u8 (n % 256))) = splice l a (bys (b4 n)) := by
  subst h1 h2 h3
  simp only [bys, b4, List.map_cons, List.map_nil]
  rw [← splice_cons (by simp only [List.length_cons, List.length_nil]; omega), ← splice_cons (by simp only [List.length_cons, List.length_nil, List.length_set]; omega), ← splice_cons (by simp only [List.length_cons, List.length_nil, List.length_set]; omega), ← splice_cons (by simp only [List.length_cons, List.length_nil, List.length_set]; omega), splice_nil]

def zrs (n : Nat) : List Int := List.replicate n 0
def headB (s e : Int) : List Int := ([179] ++ b4 e) ++ b4 s ++ zrs 55
def putHead (s e : Int) : List Int × Int := if s = 1 ∧ e = 0 then (zrs 64, 0) else if 1 ≤ e ∧ e ≤ 2147483647 ∧ 1 ≤ s ∧ s ≤ 2147483647 then (headB s e, 0) else (zrs 64, 2)
theorem b4_len (n : Int) : (b4 n).length = 4 := rfl
theorem zrs_len (n : Nat) : (zrs n).length = n := by simp [zrs]
theorem bys_zrs (n : Nat) : bys (zrs n) = List.replicate n (.int .u8 0) := bys_replicate n
theorem headB_len (s e : Int) : (headB s e).length = 64 := by simp [headB, b4, zrs]
theorem putHead_len (s e : Int) : (putHead s e).1.length = 64 := by
  unfold putHead
  split
  · exact zrs_len 64
  · split
    · exact headB_len s e
    · exact zrs_len 64
def headS (x : List Int) : Int := if x = zrs 64 then 1 else t4 x 5
def takeHead (x : List Int) : Int × Int × Int := if (putHead (headS x) (t4 x 1)).2 = 0 ∧ (putHead (headS x) (t4 x 1)).1 = x then (headS x, t4 x 1, 0) else (0, 0, 12)

/-- A log's record. -/
structure Rcd where
  node : Int
  epoch : Int
  lsn : Int
  page : Int
  psn : Int
  body : List Int
def recL (r : Rcd) : List Value := [.int .i64 r.node, .int .i64 r.epoch, .int .i64 r.lsn, .int .i64 r.page, .int .i64 r.psn] ++ bys r.body
def recV (r : Rcd) : Value := .agg (List.toArray (recL r))
theorem recL_len (r : Rcd) : (recL r).length = 5 + r.body.length := by simp [recL, bys]; omega
theorem recL_one (r : Rcd) : ∀ v ∈ recL r, v.oneCell' = true := by
  intro v hv
  rcases List.mem_append.1 hv with h | h
  · simp only [List.mem_cons, List.not_mem_nil, or_false] at h
    rcases h with rfl | rfl | rfl | rfl | rfl <;> rfl
  · exact bys_one v h
theorem recL_mid (r : Rcd) (k n : Nat) : ((recL r).drop (5 + k)).take n = bys ((r.body.drop k).take n) := by
  simp only [recL, bys]
  rw [List.drop_append, List.drop_of_length_le (by simp)]
  simp
def Rcd.may (r : Rcd) : Bool := decide (0 ≤ r.node ∧ r.node ≤ 7 ∧ 0 ≤ r.page ∧ r.page ≤ 15 ∧ 1 ≤ r.epoch ∧ r.epoch ≤ 2147483647 ∧ 1 ≤ r.lsn ∧ r.lsn ≤ 2147483647 ∧ 1 ≤ r.psn ∧ r.psn ≤ 2147483647)
def half (r : Rcd) (t : Int) (k : Nat) : List Int := [t] ++ [(r.node * 16 + r.page) % 256] ++ b4 r.epoch ++ b4 r.lsn ++ b4 r.psn ++ (r.body.drop k).take 48 ++ zrs 2
def putRec (r : Rcd) : List Int × Int := if r.may = true then (half r 177 0 ++ half r 178 48, 0) else (zrs 128, 2)
theorem half_len {r : Rcd} (h : r.body.length = 96) (t : Int) {k : Nat} (hk : k ≤ 48) : (half r t k).length = 64 := by
  simp [half, b4, zrs, h]; omega
theorem putRec_len {r : Rcd} (h : r.body.length = 96) : (putRec r).1.length = 128 := by
  unfold putRec
  split
  · simp [half_len h]
  · exact zrs_len 128
theorem pad {D : List Value} {z : Value} {m n k : Nat} (h : m = n + k) : D ++ List.replicate m z = (D ++ List.replicate n z) ++ List.replicate k z := by
  rw [h, List.append_assoc, List.replicate_append_replicate]
theorem shl4 {a : Int} (h : 0 ≤ a ∧ a ≤ 7) : IntKind.i64.wrap (a * 2 ^ (min (Int.toNat 4) IntKind.i64.bits)) = a * 16 := wrap_in (by
  rw [show min (Int.toNat 4) IntKind.i64.bits = 4 from rfl]; omega)
theorem or4 {a b : Int} (ha : 0 ≤ a ∧ a ≤ 7) (hb : 0 ≤ b ∧ b ≤ 15) : bits .or .i64 (a * 16) b = a * 16 + b := or_i64 4 _ _ (by omega) (by omega) (by omega) (by omega) (by omega) (by omega)

theorem bys_mid (l : List Int) (k n : Nat) : ((bys l).drop k).take n = bys ((l.drop k).take n) := by simp [bys, List.map_drop, List.map_take]
def saidR (a b : List Int) : Rcd := ⟨a.getD 1 0 / 16, t4 a 2, t4 a 6, a.getD 1 0 % 16, t4 a 10, (a.drop 14).take 48 ++ (b.drop 14).take 48⟩
theorem saidR_len {a b : List Int} (ha : a.length = 64) (hb : b.length = 64) : (saidR a b).body.length = 96 := by simp [saidR, ha, hb]
def zRcd : Rcd := ⟨0, 0, 0, 0, 0, zrs 96⟩
def getR (a b : List Int) : Rcd × Int := if (putRec (saidR a b)).2 = 0 ∧ (putRec (saidR a b)).1 = a ++ b then (saidR a b, 0) else (zRcd, 12)
theorem fill2 {a b : List Int} (ha : a.length = 64) (hb : b.length = 64) : Fill (fun i => some (i * 64, 64)) (bys (zrs 128)) [(0, .agg (List.toArray (bys a))), (1, .agg (List.toArray (bys b)))] (bys (a ++ b)) := by
  refine .cons (vl := bys a) (cs' := bys a ++ List.replicate 64 (.int .u8 0)) rfl rfl (by simp [bys_length, ha]) (by simp [bys_length, zrs]) ?_ (.cons (vl := bys b) rfl rfl (by simp [bys_length, hb]) (by simp [bys_length, ha]) ?_ .nil)
  · rw [bys_zrs]
    have := splice_next (done := []) (vs := bys a) (l := List.replicate 128 (.int .u8 0)) (o := 0 * 64) (z := .int .u8 0) (m := 128) (n := 64) rfl rfl (by simp [bys_length, ha])
    simpa using this
  · have := splice_next (done := bys a) (vs := bys b) (l := bys a ++ List.replicate 64 (.int .u8 0)) (o := 1 * 64) (z := .int .u8 0) (m := 64) (n := 0) rfl (by simp [bys_length, ha]) (by simp [bys_length, hb])
    rw [this, bys_append]; simp
theorem shr_u8 {a : Int} (h : 0 ≤ a ∧ a ≤ 255) : a.fdiv (2 ^ (min (Int.toNat 4) IntKind.u8.bits)) = a / 16 := by
  rw [show (2 : Int) ^ (min (Int.toNat 4) IntKind.u8.bits) = 16 from rfl, Int.fdiv_eq_ediv_of_nonneg _ (by decide)]

/-- A device: sectors, epochs, how many nodes; a cut, what is left of it, was anything lost; how much was done. -/
structure Dev where
  S : List (List Int)
  E : Nat → Int
  nodes : Int
  cut : Bool
  left : Int
  lost : Bool
  done : Int
def devL (s : Nat) (D : Dev) : List Value :=
  [.slice (some ⟨s, 0, none⟩) D.S.length D.S.length, .int .i64 (D.E 0), .int .i64 (D.E 1), .int .i64 (D.E 2), .int .i64 (D.E 3), .int .i64 (D.E 4), .int .i64 (D.E 5), .int .i64 (D.E 6), .int .i64 (D.E 7), .int .i64 D.nodes, .bool D.cut, .int .i64 D.left, .bool D.lost, .int .i64 D.done]
def secL (D : Dev) : List Value := bys D.S.flatten
structure Dev.wf (D : Dev) : Prop where
  sec : ∀ x ∈ D.S, x.length = 64 ∧ By x
  len : D.S.length ≤ 4096
  nodes0 : 1 ≤ D.nodes
  nodes1 : D.nodes ≤ 8
  epoch0 : ∀ i, 0 ≤ D.E i
  epoch1 : ∀ i, D.E i ≤ 2147483647
  left0 : 0 ≤ D.left
  left1 : D.left ≤ 9223372036854775807

theorem nth_epoch (s : Nat) (D : Dev) {i : Nat} (h : i < 8) : nth (devL s D) (1 + i) = some (.int .i64 (D.E i)) := by
  match i, h with
  | 0, _ => rfl
  | 1, _ => rfl
  | 2, _ => rfl
  | 3, _ => rfl
  | 4, _ => rfl
  | 5, _ => rfl
  | 6, _ => rfl
  | 7, _ => rfl
theorem wrs_nil {c : Cx} : ∀ r ∈ ([] : List Nat), Wr c r := fun _ h => nomatch h
theorem wrs_cons {c : Cx} {x : Nat} {M : List Nat} (h : Wr c x) (t : ∀ r ∈ M, Wr c r) : ∀ r ∈ x :: M, Wr c r := by
  intro r hr
  rcases List.mem_cons.1 hr with rfl | hr
  · exact h
  · exact t r hr
theorem one_rep {n : Nat} {v : Value} (h : v.oneCell' = true) : ∀ x ∈ List.replicate n v, x.oneCell' = true := by
  intro x hx
  rw [List.mem_replicate] at hx
  rw [hx.2]; exact h
end Go.Mw
