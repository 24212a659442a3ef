/- Linear programs: the numbers of all tables of a problem with short numbers are short. Plain facts. No program here. Linear programs: a problem with short numbers is solved, its result has a text and is proved. Plain facts. eight, a linear program that is built in place. The facts of the linear program eight, in plain Lean. -/
import Derived.Test.YtcgfdfdcbamceaaGreatDoorXAS
import Derived.Test.YtcgfdfdcbamceaaGreatDoorXBH
import Derived.Test.YtcgfdfdcbamceaaGreatDoorXBV
import Derived.Test.YtcgfdfdcbamceaaGreatDoorXBW
namespace Go.Proofs.YtcgfdfdcbamceaaGreatDoor
theorem ten_P32 : ∀ k : Nat, ((10 ^ k : Nat) : Int) ≤ P32 k
 | 0 => by decide
 | k + 1 => by
  have ih := ten_P32 k
  have h1 : P32 (k + 1) = P32 k * 4294967296 := by unfold P32; rw [Int.pow_succ]
  have h2 : 10 ^ (k + 1) = 10 ^ k * 10 := Nat.pow_succ _ _
  rw [h1, h2]
  omega
theorem szQ_fitZ {q : Rat} {k : Nat} (h : SzQ q k) : FitR k q := by
 have h3 := ten_P32 k
 obtain ⟨h1, h2⟩ := h
 unfold FitR Fits
 generalize 10 ^ k = T at *
 omega
theorem szQ_zeroZ {k : Nat} (hk : 1 ≤ k) : SzQ 0 k := ⟨Nat.pow_pos (by decide), Nat.one_lt_pow (by omega) (by decide)⟩
theorem szQ_oneZ {k : Nat} (hk : 1 ≤ k) : SzQ 1 k := ⟨Nat.one_lt_pow (by omega) (by decide), Nat.one_lt_pow (by omega) (by decide)⟩
theorem ten_natZ {k n : Nat} (h : n ≤ 10 ^ k) : Ten k ((n : Nat) : Rat) := ⟨(n : Nat), by norm_cast, by simpa using h⟩
section
variable {a : List (List Rat)} {b c : List Rat} {m n : Nat}
structure ShortQ (a : List (List Rat)) (b c : List Rat) : Prop where
 ma : ∀ r ∈ a, ∀ q ∈ r, SzQ q 12
 vb : ∀ q ∈ b, SzQ q 12
 vc : ∀ q ∈ c, SzQ q 12
theorem getD_memZ {l : List Rat} {k : Nat} (h : k < l.length) : l.getD k 0 ∈ l := by
 rw [List.getD_eq_getElem?_getD, List.getElem?_eq_getElem h]
 exact List.getElem_mem h
theorem row_memZ {l : List (List Rat)} {k : Nat} (h : k < l.length) : l.getD k [] ∈ l := by
 rw [List.getD_eq_getElem?_getD, List.getElem?_eq_getElem h]
 exact List.getElem_mem h
def facQ (m : Nat) (a : List (List Rat)) (b : List Rat) (G : Rat) (j : Nat) : Rat := if j < m then ((dprod (a.getD j [] ++ [b.getD j 0]) : Nat) : Rat) else G
theorem scT_of (hp : ProbQ a b c m n) (hs : ShortQ a b c) (hn : n ≤ 6) {W x : Nat} {g : Nat → Rat} {G : Rat} (hG : G ≠ 0) (tG : Ten 96 G) (eG : ∀ k, k ≤ W → Ten 96 (G * g k)) : ScT m W (T0F m n W x (ent a) (fun i => b.getD i 0) g) (facQ m a b G) 96 := by
 have hl := hp.len
 have hlb := hp.lb
 have hrow : ∀ j, j < m → (a.getD j [] ++ [b.getD j 0]).length = n + 1 := fun j hj => by rw [List.length_append, hp.rowAt hj]; rfl
 have hin : ∀ j, j < m → ∀ q ∈ a.getD j [] ++ [b.getD j 0], SzQ q 12 := fun j hj q hq => by
  rcases List.mem_append.1 hq with h | h
  ·exact hs.ma _ (row_memZ (by omega)) q h
  ·rw [List.mem_singleton.1 h]
   exact hs.vb _ (getD_memZ (by omega))
 have hD : ∀ j, j < m → Ten 96 ((dprod (a.getD j [] ++ [b.getD j 0]) : Nat) : Rat) := fun j hj => by
  have h1 := dprod_ten _ (hin j hj)
  rw [hrow j hj] at h1
  exact (ten_natZ h1).ten (by omega)
 have hE : ∀ j, j < m → ∀ q ∈ a.getD j [] ++ [b.getD j 0], Ten 96 (((dprod (a.getD j [] ++ [b.getD j 0]) : Nat) : Rat) * q) := fun j hj q hq => by
  have h1 := dprod_el _ (hin j hj) q hq
  rw [hrow j hj] at h1
  exact h1.ten (by omega)
 refine ⟨fun j hj => ?_, fun j hj => ?_, fun j hj k hk => ?_⟩
 ·rw [facQ]
  split
  ·have := dprod_pos (a.getD j [] ++ [b.getD j 0])
   intro e
   have e2 : dprod (a.getD j [] ++ [b.getD j 0]) = 0 := by exact_mod_cast e
   omega
  ·exact hG
 ·rw [facQ]
  split
  ·rename_i h
   exact hD j h
  ·exact tG
 ·rw [facQ, T0F]
  split
  ·rename_i h
   split
   ·rename_i h2
    refine hE j h _ (List.mem_append_left _ ?_)
    rw [ent]
    exact getD_memZ (by rw [hp.rowAt h]; exact h2)
   ·split
    ·rw [Rat.mul_one]
     exact hD j h
    ·split
     ·exact hE j h _ (List.mem_append_right _ (List.mem_singleton.2 rfl))
     ·split
      ·rw [Rat.mul_neg, Rat.mul_one]
       exact IB.neg (hD j h)
      ·rw [Rat.mul_zero]
       exact IB.zero _
  ·exact eG k hk
theorem tab_out {t : TabQ} {W K : Nat} {T0 : Nat → Nat → Rat} (h : InvQ m W K T0 t) {i k : Nat} (hi : i ≤ m) (hk : ¬ k ≤ W) : tabF t i k = 0 := by
 rcases Nat.lt_or_eq_of_le hi with h1 | h1
 ·rw [tabF_row h.sh h1, ent, getD_ge _ _ _ (by rw [h.sh.rowAt h1]; omega)]
 ·subst h1
  rw [tabF_tgt h.sh, getD_ge _ _ _ (by rw [h.sh.tgt]; omega)]
theorem tab1_sz (hp : ProbQ a b c m n) (hs : ShortQ a b c) (hn : n ≤ 6) (hm : m ≤ 6) : ∀ t', InvQ m (n + m + 1) (n + m + 1) (T1F m n a b) t' → ∀ i k, i ≤ m → SzQ (tabF t' i k) 971 := fun t' h i k hi => by
 by_cases hk : k ≤ n + m + 1
 ·refine inv_sz h (scT_of hp hs hn (G := 1) (by decide) (ten_natZ (n := 1) (Nat.pow_pos (by decide))) fun k _ => ?_) (by omega) hi hk
  rw [Rat.one_mul, g1]
  split
  ·exact ten_natZ (n := 1) (Nat.pow_pos (by decide))
  ·exact IB.zero _
 ·rw [tab_out h hi hk]
  exact szQ_zeroZ (by decide)
theorem tab2_sz (hp : ProbQ a b c m n) (hs : ShortQ a b c) (hn : n ≤ 6) (hm : m ≤ 6) : ∀ t', InvQ m (W2 m n) (n + m) (T2F m n a b c) t' → ∀ i k, i ≤ m → SzQ (tabF t' i k) 971 := fun t' h i k hi => by
 have hlc := hp.lc
 by_cases hk : k ≤ W2 m n
 ·refine inv_sz h (scT_of hp hs hn (G := ((dprod c : Nat) : Rat)) (fun e => ?_) ?_ fun k _ => ?_) (by omega) hi hk
  ·have := dprod_pos c
   have e2 : dprod c = 0 := by exact_mod_cast e
   omega
  ·exact (ten_natZ (dprod_ten c hs.vc)).ten (by omega)
  ·rw [g2]
   split
   ·rename_i h2
    rw [Rat.mul_neg]
    exact IB.neg ((dprod_el c hs.vc _ (getD_memZ (by omega))).ten (by omega))
   ·rw [Rat.mul_zero]
    exact IB.zero _
 ·rw [tab_out h hi hk]
  exact szQ_zeroZ (by decide)
end
section
variable {a : List (List Rat)} {b c : List Rat} {m n : Nat}
theorem getD_all {P : Rat → Prop} (h0 : P 0) {l : List Rat} (h : ∀ q ∈ l, P q) (k : Nat) : P (l.getD k 0) := by
 by_cases hk : k < l.length
 ·exact h _ (getD_memZ hk)
 ·rw [getD_ge _ _ _ (by omega)]
  exact h0
theorem all_getD {P : Rat → Prop} {l : List Rat} (h : ∀ k, P (l.getD k 0)) : ∀ q ∈ l, P q := fun q hq => by
 obtain ⟨k, hk, rfl⟩ := List.mem_iff_getElem.1 hq
 have := h k
 rwa [List.getD_eq_getElem?_getD, List.getElem?_eq_getElem hk] at this
theorem ent_all {P : Rat → Prop} (h0 : P 0) (h : ∀ r ∈ a, ∀ q ∈ r, P q) (i k : Nat) : P (ent a i k) := by
 rw [ent]
 by_cases hi : i < a.length
 ·exact getD_all h0 (h _ (row_memZ hi)) k
 ·rw [getD_ge a i [] (by omega)]
  exact h0
theorem okQ_of (hp : ProbQ a b c m n) (hs : ShortQ a b c) (hm : m ≤ 6) (hn : n ≤ 6) : OkQ a b c m n := by
 have z : SzQ 0 12 := szQ_zeroZ (by decide)
 have f12 : ∀ {q : Rat}, SzQ q 12 → FitR 20000 q := fun h => (szQ_fitZ h).mono (Nat.le_of_ble_eq_true rfl)
 have f971 : ∀ {q : Rat}, SzQ q 971 → FitR 20000 q := fun h => (szQ_fitZ h).mono (Nat.le_of_ble_eq_true rfl)
 exact ⟨hp, by omega, by omega, fun i k => f12 (ent_all z hs.ma i k), fun i => f12 (getD_all z hs.vb i), fun i => f12 (getD_all z hs.vc i), fun t' h i k hi => f971 (tab1_sz hp hs hn hm t' h i k hi), fun t' h i k hi => f971 (tab2_sz hp hs hn hm t' h i k hi)⟩
theorem valN_all {P : Rat → Prop} {t : TabQ} {W : Nat} (h0 : P 0) (h : ShQ t m W) (f : ∀ i k, i ≤ m → P (tabF t i k)) : ∀ i, i ≤ m → ∀ k, P ((valN t n i).getD k 0)
 | 0, _, k => by
  rw [valN, getD_rep]
  exact h0
 | i + 1, hi, k => by
  rw [valN]
  split
  ·rw [getD_set]
   split
   ·rw [end_at h (by omega)]
    exact f i W (by omega)
   ·exact valN_all h0 h f i (by omega) k
  ·exact valN_all h0 h f i (by omega) k
theorem rayN_all {P : Rat → Prop} {t : TabQ} {W s : Nat} (h0 : P 0) (h1 : P 1) (h : ShQ t m W) (f : ∀ i k, i ≤ m → P (- tabF t i k)) : ∀ i, i ≤ m → ∀ k, P ((rayN t s n i).getD k 0)
 | 0, _, k => by
  rw [rayN]
  split
  ·rw [getD_set]
   split
   ·exact h1
   ·rw [getD_rep]
    exact h0
  ·rw [getD_rep]
   exact h0
 | i + 1, hi, k => by
  rw [rayN]
  split
  ·rw [getD_set]
   split
   ·rw [← tabF_row h (by omega)]
    exact f i s (by omega)
   ·exact rayN_all h0 h1 h f i (by omega) k
  ·exact rayN_all h0 h1 h f i (by omega) k
theorem cut_all {P : Rat → Prop} {l : List Rat} (h : ∀ k, P (l.getD k 0)) (i j : Nat) : ∀ q ∈ (l.drop i).take j, P q := fun q hq => all_getD h q (List.mem_of_mem_drop (List.mem_of_mem_take hq))
structure SzS (s : SolvedQ) : Prop where
 x : ∀ q ∈ s.x, SzQ q 971
 y : ∀ q ∈ s.y, SzQ q 971
 r : ∀ q ∈ s.ray, SzQ q 971
 v : s.kind = 0 → SzQ s.value 971
theorem tab_any {t : TabQ} {W : Nat} (h : ShQ t m W) {P : Rat → Prop} (f : ∀ i k, i ≤ m → P (tabF t i k)) (k : Nat) : P (t.tgt.getD k 0) := by
 have := f m k (Nat.le_refl m)
 rwa [tabF_tgt h] at this
theorem sol_sz (hp : ProbQ a b c m n) (hs : ShortQ a b c) (hm : m ≤ 6) (hn : n ≤ 6) : SzS (solveQ a b c) := by
 have z : SzQ 0 971 := szQ_zeroZ (by decide)
 have o : SzQ 1 971 := szQ_oneZ (by decide)
 have h1 := phase1_inv hp
 by_cases hneg : tabF (phase1 a b n) m (n + m + 1) < 0
 ·rw [solveQ_neg hp hneg]
  exact ⟨fun q h => (by cases h), cut_all (tab_any (P := fun q => SzQ q 971) h1.inv.sh (tab1_sz hp hs hn hm _ h1.inv.toInvQ)) n m, fun q h => (by cases h), fun e => absurd e (by show ¬ ((1 : Int) = 0); decide)⟩
 ·have h2 := phase2_inv hp (sett0 hp hneg)
  have hf := tab2_sz hp hs hn hm _ h2.inv.toInvQ
  have hx := valN_all (n := n) (P := fun q => SzQ q 971) z h2.inv.sh hf m (Nat.le_refl m)
  cases hk : (phase2 a c n (phase1 a b n)).2 with
  | none =>
   rw [solveQ_best hp hneg hk]
   refine ⟨all_getD hx, cut_all (tab_any (P := fun q => SzQ q 971) h2.inv.sh hf) n m, fun q h => (by cases h), fun _ => ?_⟩
   have h3 := h2
   rw [hk] at h3
   have hb := best_law h3
   have hxv : ∀ k, k < n → (valN (phase2 a c n (phase1 a b n)).1 n m).getD k 0 = bx m (W2 m n) (tabF (phase2 a c n (phase1 a b n)).1) (basF (phase2 a c n (phase1 a b n)).1) k := fun k hk => by
    have hne : k ≠ W2 m n := by rw [W2]; split <;> omega
    rw [valN_at h2.inv.sh h2.inv.bas hk m (Nat.le_refl _), bx, vx, if_neg hne]
    grind
   have e : dotQ c (valN (phase2 a c n (phase1 a b n)).1 n m) = tabF (phase2 a c n (phase1 a b n)).1 m (W2 m n) := by
    rw [← hb.vx, dotQ, hp.lc]
    exact sm_congr n fun k hk => by rw [hxv k hk]
   show SzQ (dotQ c (valN (phase2 a c n (phase1 a b n)).1 n m)) 971
   rw [e]
   exact hf m _ (Nat.le_refl m)
  | some k =>
   rw [solveQ_free hp hneg hk]
   exact ⟨all_getD hx, fun q h => (by cases h), all_getD (rayN_all (P := fun q => SzQ q 971) z o h2.inv.sh (fun i j hi => (hf i j hi).neg) m (Nat.le_refl m)), fun e => absurd e (by show (2 : Int) ≠ 0; decide)⟩
theorem fitS_of (hp : ProbQ a b c m n) (hs : ShortQ a b c) (hm : m ≤ 6) (hn : n ≤ 6) : FitS (solveQ a b c) := by
 have h := sol_sz hp hs hm hn
 have hm2 := hm
 have f : ∀ {q : Rat}, SzQ q 971 → fitQ q = true := fun h => h.fit (by decide) (by decide)
 have hr := solve_law hp
 generalize solveQ a b c = s at h hr
 have hl : s.x.length ≤ 40 ∧ s.y.length ≤ 40 ∧ s.ray.length ≤ 40 := by
  cases hr with
  | best x y v hx hy _ => exact ⟨by show x.length ≤ 40; omega, by show y.length ≤ 40; omega, Nat.zero_le _⟩
  | none y hy _ => exact ⟨Nat.zero_le _, by show y.length ≤ 40; omega, Nat.zero_le _⟩
  | free x r hx hr _ => exact ⟨by show x.length ≤ 40; omega, Nat.zero_le _, by show r.length ≤ 40; omega⟩
 exact ⟨hl.1, hl.2.1, hl.2.2, List.all_eq_true.2 fun q hq => f (h.x q hq), List.all_eq_true.2 fun q hq => f (h.y q hq), List.all_eq_true.2 fun q hq => f (h.r q hq), fun e => f (h.v e)⟩
theorem nnL_of {l : List Rat} (h : ∀ k, k < l.length → 0 ≤ l.getD k 0) : nnL l = true := List.all_eq_true.2 fun k hk => by
 rw [nnP, decide_eq_false (Rat.not_lt.2 (h k (List.mem_range.1 hk)))]
 rfl
theorem dot_row (hp : ProbQ a b c m n) {i : Nat} (hi : i < m) (x : List Rat) : dotQ (a.getD i []) x = sm n fun k => ent a i k * x.getD k 0 := by
 rw [dotQ, hp.rowAt hi]
 rfl
theorem feas_of (hp : ProbQ a b c m n) {x : List Rat} (h : ∀ i, i < m → (sm n fun k => ent a i k * x.getD k 0) ≤ b.getD i 0) : feasQ a b x = true := List.all_eq_true.2 fun i hi => by
 have hi2 : i < m := by rw [← hp.len]; exact List.mem_range.1 hi
 rw [feasP, dot_row hp hi2, decide_eq_false (Rat.not_lt.2 (h i hi2))]
 rfl
theorem proved_of (hp : ProbQ a b c m n) {s : SolvedQ} (h : ResQ m n a b c s) : provedB s.kind.toNat a b c s.x s.y s.ray s.value m n = true := by
 have hc := hp.lc
 have hb := hp.lb
 cases h with
 | best x y v hx hy h =>
  show provedB 0 a b c x y [] v m n = true
  have e1 : (List.range n).all (bestP a c y m) = true := List.all_eq_true.2 fun k hk => by
   rw [bestP, mixQ]
   have : c.getD k 0 ≤ sm m (mixF a y k) := h.mix k (List.mem_range.1 hk)
   rw [decide_eq_false (Rat.not_lt.2 this)]
   rfl
  rw [provedB, nnL_of fun k hk => h.xn k (by omega), nnL_of fun k hk => h.yn k (by omega), show nnL ([] : List Rat) = true from rfl, if_pos rfl, bestB, e1, feas_of hp h.fe, decide_eq_true (show dotQ c x = v by rw [dotQ, hc]; exact h.vx), decide_eq_true (show dotQ b y = v by rw [dotQ, hb]; exact h.vy)]
  rfl
 | none y hy h =>
  show provedB 1 a b c [] y [] 0 m n = true
  have e1 : (List.range n).all (noneP a y m) = true := List.all_eq_true.2 fun k hk => by
   rw [noneP, mixQ]
   have : 0 ≤ sm m (mixF a y k) := h.mix k (List.mem_range.1 hk)
   rw [decide_eq_false (Rat.not_lt.2 this)]
   rfl
  rw [provedB, nnL_of fun k hk => h.nn k (by omega), show nnL ([] : List Rat) = true from rfl, if_neg (by decide), if_pos rfl, noneB, e1, decide_eq_true (show dotQ b y < 0 by rw [dotQ, hb]; exact h.neg)]
  rfl
 | free x r hx hr h =>
  show provedB 2 a b c x [] r 0 m n = true
  have e1 : (List.range m).all (freeP a r) = true := List.all_eq_true.2 fun i hi => by
   have hi2 := List.mem_range.1 hi
   rw [freeP, dot_row hp hi2, decide_eq_false (Rat.not_lt.2 (h.ra i hi2))]
   rfl
  rw [provedB, nnL_of fun k hk => h.xn k (by omega), nnL_of fun k hk => h.rn k (by omega), show nnL ([] : List Rat) = true from rfl, if_neg (by decide), if_neg (by decide), freeB, e1, feas_of hp h.fe, decide_eq_true (show 0 < dotQ c r by rw [dotQ, hc]; exact h.pos)]
  rfl
end
end Go.Proofs.YtcgfdfdcbamceaaGreatDoor
namespace Go.Proofs.YtcgfdfdcbamceaaGreatDoor
open Go.RowKit
theorem reads_blk {w : World} {g : Nat} {T : TypeId} {xs : List Value} (h : Blk w g T xs.toArray) : Reads w w.heap.size 1 (some ⟨g, 0, none⟩) xs.length xs := by
 refine ⟨by omega, fun _ => ⟨g, 0, rfl, h.lt, fun j u hu => ?_⟩⟩
 rw [Nat.zero_add]
 refine (h.cell j).trans ?_
 simpa using hu
def eA : List (List ByteArray) := [[⟨#[49]⟩, ⟨#[49]⟩]]
def eB : List ByteArray := [⟨#[52]⟩]
def eC : List ByteArray := [⟨#[50]⟩, ⟨#[49]⟩]
set_option maxRecDepth 100000 in
set_option maxHeartbeats 4000000 in
theorem eight_any (w : World) : Calls Tryz.prog 25 #[] w fun e w' => ∃ A Ab Ac, e = .returned (.agg #[.slice A 1 1, .slice Ab 1 1, .slice Ac 2 2]) ∧ PrW w' A 1 Ab 1 Ac 2 eA eB eC ∧ Below w.heap.size w w' := by
 have h0 := below_new w (.cells #[.slice none 0 0, .slice none 0 0, .slice none 0 0] 27)
 have B0 := Blk.new w 27 #[.slice none 0 0, .slice none 0 0, .slice none 0 0]
 have H0 := Lib.hid h0
 go_enter Tryz.func25, Tryz.ntmps25
 go_upto_region 1 with (fail)
 generalize w.alloc (.cells #[.slice none 0 0, .slice none 0 0, .slice none 0 0] 27) = w1 at *
 have z0 : w1.cell? ⟨w.heap.size, 0, none⟩ = some (.slice none 0 0) := B0.cell 0
 have y0 : w1.frozen? ⟨w.heap.size, 0, none⟩ = false := B0.frozen 0
 have z1 : w1.cell? ⟨w.heap.size, 1, none⟩ = some (.slice none 0 0) := B0.cell 1
 have y1 : w1.frozen? ⟨w.heap.size, 1, none⟩ = false := B0.frozen 1
 have z2 : w1.cell? ⟨w.heap.size, 2, none⟩ = some (.slice none 0 0) := B0.cell 2
 have y2 : w1.frozen? ⟨w.heap.size, 2, none⟩ = false := B0.frozen 2
 have l0 := B0.lt
 have l1 : w.heap.size < w1.heap.size + 1 := by omega
 have l5 : w.heap.size < w1.heap.size + 1 + 1 := by omega
 have l9 : w.heap.size < w1.heap.size + 1 + 1 + 1 := by omega
 have Bs := Lib.hid (show Blk (((w1.setCell ⟨w.heap.size, 0, none⟩ (.slice (some ⟨w1.heap.size + 1, 0, none⟩) 1 1)).setCell ⟨w.heap.size, 1, none⟩ (.slice (some ⟨w1.heap.size + 1 + 1, 0, none⟩) 1 1)).setCell ⟨w.heap.size, 2, none⟩ (.slice (some ⟨w1.heap.size + 1 + 1 + 1, 0, none⟩) 2 2)) w.heap.size 27 #[.slice (some ⟨w1.heap.size + 1, 0, none⟩) 1 1, .slice (some ⟨w1.heap.size + 1 + 1, 0, none⟩) 1 1, .slice (some ⟨w1.heap.size + 1 + 1 + 1, 0, none⟩) 2 2] from ((B0.set_ 0 (.slice (some ⟨w1.heap.size + 1, 0, none⟩) 1 1)).set_ 1 (.slice (some ⟨w1.heap.size + 1 + 1, 0, none⟩) 1 1)).set_ 2 (.slice (some ⟨w1.heap.size + 1 + 1 + 1, 0, none⟩) 2 2))
 have HS := Lib.hid (show (((w1.setCell ⟨w.heap.size, 0, none⟩ (.slice (some ⟨w1.heap.size + 1, 0, none⟩) 1 1)).setCell ⟨w.heap.size, 1, none⟩ (.slice (some ⟨w1.heap.size + 1 + 1, 0, none⟩) 1 1)).setCell ⟨w.heap.size, 2, none⟩ (.slice (some ⟨w1.heap.size + 1 + 1 + 1, 0, none⟩) 2 2)).heap.size = w1.heap.size by simp)
 have HB := Lib.hid (((H0.out.setCell (p := ⟨w.heap.size, 0, none⟩) (Nat.le_refl _) (.slice (some ⟨w1.heap.size + 1, 0, none⟩) 1 1)).setCell (p := ⟨w.heap.size, 1, none⟩) (Nat.le_refl _) (.slice (some ⟨w1.heap.size + 1 + 1, 0, none⟩) 1 1)).setCell (p := ⟨w.heap.size, 2, none⟩) (Nat.le_refl _) (.slice (some ⟨w1.heap.size + 1 + 1 + 1, 0, none⟩) 2 2))
 clear H0 h0
 go_wp2
 clear z0 z1 z2 y0 y1 y2 l0 l1 l5 l9 B0
 generalize ((w1.setCell ⟨w.heap.size, 0, none⟩ (.slice (some ⟨w1.heap.size + 1, 0, none⟩) 1 1)).setCell ⟨w.heap.size, 1, none⟩ (.slice (some ⟨w1.heap.size + 1 + 1, 0, none⟩) 1 1)).setCell ⟨w.heap.size, 2, none⟩ (.slice (some ⟨w1.heap.size + 1 + 1 + 1, 0, none⟩) 2 2) = ws at *
 have hs := HS.out
 clear HS
 rw [← hs] at Bs ⊢
 clear hs
 have h1 := below_new ws (.cells #[.string ⟨#[49]⟩, .string ⟨#[49]⟩] 30)
 have h2 := below_new (ws.alloc (.cells #[.string ⟨#[49]⟩, .string ⟨#[49]⟩] 30)) (.cells #[.slice (some ⟨ws.heap.size, 0, none⟩) 2 2] 25)
 have h3 := below_new ((ws.alloc (.cells #[.string ⟨#[49]⟩, .string ⟨#[49]⟩] 30)).alloc (.cells #[.slice (some ⟨ws.heap.size, 0, none⟩) 2 2] 25)) (.cells #[.string ⟨#[52]⟩] 30)
 have h4 := below_new (((ws.alloc (.cells #[.string ⟨#[49]⟩, .string ⟨#[49]⟩] 30)).alloc (.cells #[.slice (some ⟨ws.heap.size, 0, none⟩) 2 2] 25)).alloc (.cells #[.string ⟨#[52]⟩] 30)) (.cells #[.string ⟨#[50]⟩, .string ⟨#[49]⟩] 30)
 have hb := ((h1.trans (h2.mono h1.size)).trans (h3.mono (h1.trans (h2.mono h1.size)).size)).trans (h4.mono ((h1.trans (h2.mono h1.size)).trans (h3.mono (h1.trans (h2.mono h1.size)).size)).size)
 have B1 := Lib.hid ((((Blk.new ws 30 #[.string ⟨#[49]⟩, .string ⟨#[49]⟩]).alloc (.cells #[.slice (some ⟨ws.heap.size, 0, none⟩) 2 2] 25)).alloc (.cells #[.string ⟨#[52]⟩] 30)).alloc (.cells #[.string ⟨#[50]⟩, .string ⟨#[49]⟩] 30))
 have B2 := ((Blk.new (ws.alloc (.cells #[.string ⟨#[49]⟩, .string ⟨#[49]⟩] 30)) 25 #[.slice (some ⟨ws.heap.size, 0, none⟩) 2 2]).alloc (.cells #[.string ⟨#[52]⟩] 30)).alloc (.cells #[.string ⟨#[50]⟩, .string ⟨#[49]⟩] 30)
 have B3 := (Blk.new ((ws.alloc (.cells #[.string ⟨#[49]⟩, .string ⟨#[49]⟩] 30)).alloc (.cells #[.slice (some ⟨ws.heap.size, 0, none⟩) 2 2] 25)) 30 #[.string ⟨#[52]⟩]).alloc (.cells #[.string ⟨#[50]⟩, .string ⟨#[49]⟩] 30)
 have B4 := Blk.new (((ws.alloc (.cells #[.string ⟨#[49]⟩, .string ⟨#[49]⟩] 30)).alloc (.cells #[.slice (some ⟨ws.heap.size, 0, none⟩) 2 2] 25)).alloc (.cells #[.string ⟨#[52]⟩] 30)) 30 #[.string ⟨#[50]⟩, .string ⟨#[49]⟩]
 rw [World.size_alloc] at B2
 rw [World.size_alloc, World.size_alloc] at B3
 rw [World.size_alloc, World.size_alloc, World.size_alloc] at B4
 have BS := Bs.out.below hb Bs.out.lt
 replace HB := HB.out.trans (hb.mono HB.out.size)
 generalize (((ws.alloc (.cells #[.string ⟨#[49]⟩, .string ⟨#[49]⟩] 30)).alloc (.cells #[.slice (some ⟨ws.heap.size, 0, none⟩) 2 2] 25)).alloc (.cells #[.string ⟨#[52]⟩] 30)).alloc (.cells #[.string ⟨#[50]⟩, .string ⟨#[49]⟩] 30) = we at *
 have q0 : we.cell? ⟨w.heap.size, 0, none⟩ = some (.slice (some ⟨ws.heap.size + 1, 0, none⟩) 1 1) := BS.cell 0
 have q1 : we.cell? ⟨w.heap.size, 1, none⟩ = some (.slice (some ⟨ws.heap.size + 1 + 1, 0, none⟩) 1 1) := BS.cell 1
 have q2 : we.cell? ⟨w.heap.size, 2, none⟩ = some (.slice (some ⟨ws.heap.size + 1 + 1 + 1, 0, none⟩) 2 2) := BS.cell 2
 exact bodyPost_ret (v := .agg #[.slice (some ⟨ws.heap.size + 1, 0, none⟩) 1 1, .slice (some ⟨ws.heap.size + 1 + 1, 0, none⟩) 1 1, .slice (some ⟨ws.heap.size + 1 + 1 + 1, 0, none⟩) 2 2]) (by simp [results, Tryz.results25, go_sem, q0, q1, q2]) rfl ⟨_, _, _, rfl, ⟨⟨[.slice (some ⟨ws.heap.size, 0, none⟩) 2 2], reads_blk B2, rfl, fun i u l h1 h2 => by
  match i, h1, h2 with
  | 0, h1, h2 =>
   injection h1 with h1
   injection h2 with h2
   subst h1 h2
   exact ⟨_, _, rfl, reads_blk (xs := [Sv ⟨#[49]⟩, Sv ⟨#[49]⟩]) B1.out⟩⟩, reads_blk (xs := [Sv ⟨#[52]⟩]) B3, reads_blk (xs := [Sv ⟨#[50]⟩, Sv ⟨#[49]⟩]) B4⟩, HB⟩
def rX : List (List UInt8) := [[52], [48]]
def rY : List (List UInt8) := [[50]]
theorem eight_chk : chkP (tx2 eA) (tx1 eB) (tx1 eC) = 0 := by decide +kernel
theorem eight_ma : valsM (tx2 eA) = [[1, 1]] := by decide +kernel
theorem eight_vb : valsV (tx1 eB) = [4] := by decide +kernel
theorem eight_vc : valsV (tx1 eC) = [2, 1] := by decide +kernel
theorem eight_sol : solP (tx2 eA) (tx1 eB) (tx1 eC) = ⟨0, rX, rY, [], [56]⟩ := by kernel_rfl
theorem eight_ver : verP (tx2 eA) (tx1 eB) (tx1 eC) 0 rX rY [] [56] = 0 := by decide +kernel
theorem eight_bad : verP (tx2 eA) (tx1 eB) (tx1 eC) 0 rX rY [] [57] = 21 := by decide +kernel
theorem one_bad : chkP (tx2 []) (tx1 [⟨#[49]⟩]) (tx1 []) = 3 := by decide +kernel
theorem small_sz12 {q : Rat} (h : q = 0 ∨ q = 1 ∨ q = 2 ∨ q = 4 ∨ q = 8 ∨ q = 9) : SzQ q 12 := by
 rcases h with rfl | rfl | rfl | rfl | rfl | rfl <;> exact ⟨by decide +kernel, by decide +kernel⟩
theorem eight_short : ShortQ (valsM (tx2 eA)) (valsV (tx1 eB)) (valsV (tx1 eC)) := by
 rw [eight_ma, eight_vb, eight_vc]
 refine ⟨fun r hr q hq => small_sz12 ?_, fun q hq => small_sz12 ?_, fun q hq => small_sz12 ?_⟩
 ·simp at hr
  subst hr
  simp at hq
  simp [hq]
 ·simp at hq
  simp [hq]
 ·simp at hq
  rcases hq with rfl | rfl <;> simp
theorem eight_prob : ProbQ (valsM (tx2 eA)) (valsV (tx1 eB)) (valsV (tx1 eC)) 1 2 := by
 rw [eight_ma, eight_vb, eight_vc]
 exact ⟨rfl, fun r hr => by simp at hr; subst hr; rfl, rfl, rfl⟩
theorem good_of {m : List (List ByteArray)} {lb lc : List ByteArray} {na nc : Nat} (hp : ProbQ (valsM (tx2 m)) (valsV (tx1 lb)) (valsV (tx1 lc)) na nc) (hs : ShortQ (valsM (tx2 m)) (valsV (tx1 lb)) (valsV (tx1 lc))) (h6 : na ≤ 6) (hn : nc ≤ 6) (va : Val2 m) (vb : Val1 lb) (vc : Val1 lc) : Good m lb lc na nc ∧ GoodV m lb lc na nc := by
 have z : SzQ 0 12 := szQ_zeroZ (by decide)
 have f : ∀ {q : Rat}, SzQ q 12 → FitR 1000 q := fun h => (szQ_fitZ h).mono (Nat.le_of_ble_eq_true rfl)
 exact ⟨⟨okQ_of hp hs h6 hn, fitS_of hp hs h6 hn, va, vb, vc⟩, ⟨okQ_of hp hs h6 hn, va, vb, vc, fun i k => f (ent_all z hs.ma i k), fun i => f (getD_all z hs.vb i), fun i => f (getD_all z hs.vc i)⟩⟩
theorem okV_of {tx : List ByteArray} {l : Nat} (hs : Sh1 tx) (hc : chkV (tx1 tx) = 0) (hl : tx.length = l) (hf : ∀ q ∈ valsV (tx1 tx), SzQ q 980) : OkV tx l := by
 obtain ⟨h1, h2⟩ := chkV_ok hc
 rw [tx1, List.length_map] at h1
 exact ⟨hs, fun s hs => h2 _ (List.mem_map.2 ⟨s, hs, rfl⟩), hl, by omega, fun i => (szQ_fitZ (getD_all (P := fun q => SzQ q 980) (szQ_zeroZ (by decide)) hf i)).mono (Nat.le_of_ble_eq_true rfl)⟩
end Go.Proofs.YtcgfdfdcbamceaaGreatDoor
