/- Linear programs: pivots of a table, and why the first improving column with the first of the least rows never comes back to a basis. Plain facts. No program here. Linear programs in plain Lean: the tables as lists, and what the two phases give. Plain facts. No program here. -/
import Derived.Test.YtcgfdfdcbamceaaGreatDoorXAA
namespace Go.Proofs.YtcgfdfdcbamceaaGreatDoor
theorem sm_neg (f : Nat → Rat) (n : Nat) : sm n (fun i => - f i) = - sm n f := by
 have h := sm_mul (-1) f n
 rw [sm_congr n (g := fun i => -1 * f i) fun i _ => by grind, h]
 grind
theorem sm_pos_ex {f : Nat → Rat} : ∀ {n : Nat}, 0 < sm n f → ∃ i, i < n ∧ 0 < f i
 | 0, h => absurd h (by rw [sm]; exact Rat.lt_irrefl)
 | n + 1, h => by
  rw [sm] at h
  by_cases h0 : 0 < f n
  ·exact ⟨n, by omega, h0⟩
  ·have h1 : f n ≤ 0 := Rat.not_lt.1 h0
   obtain ⟨i, hi, hp⟩ := sm_pos_ex (show 0 < sm n f by grind)
   exact ⟨i, by omega, hp⟩
def pvF (T : Nat → Nat → Rat) (r c : Nat) : Nat → Nat → Rat := fun i k => if i = r then T r k / T r c else T i k - T i c * (T r k / T r c)
def dt (W : Nat) (T : Nat → Nat → Rat) (x : Nat → Rat) (i : Nat) : Rat := sm (W + 1) fun k => T i k * x k
def SolF (m W : Nat) (T : Nat → Nat → Rat) (x : Nat → Rat) : Prop := ∀ i, i < m → dt W T x i = 0
def putB (bs : Nat → Nat) (r c : Nat) : Nat → Nat := fun i => if i = r then c else bs i
theorem dt_pv_row {T : Nat → Nat → Rat} {r c : Nat} (W : Nat) (x : Nat → Rat) : dt W (pvF T r c) x r = dt W T x r / T r c := by
 rw [dt, dt, sm_congr (W + 1) (g := fun k => (T r c)⁻¹ * (T r k * x k)) fun k _ => by rw [pvF, if_pos rfl, Rat.div_def]; grind, sm_mul, Rat.div_def]
 grind
theorem dt_pv_ne {T : Nat → Nat → Rat} {r c i : Nat} (hi : i ≠ r) (W : Nat) (x : Nat → Rat) : dt W (pvF T r c) x i = dt W T x i - T i c * (dt W T x r / T r c) := by
 rw [dt, dt, dt, sm_congr (W + 1) (g := fun k => 1 * (T i k * x k) + (- (T i c * (T r c)⁻¹)) * (T r k * x k)) fun k _ => by rw [pvF, if_neg hi, Rat.div_def]; grind, sm_lin, Rat.div_def]
 grind
section
variable {m W K : Nat} {T : Nat → Nat → Rat} {bs : Nat → Nat} {r c : Nat} {x : Nat → Rat}
theorem sol_pv (hr : r < m) (hne : T r c ≠ 0) : SolF m W (pvF T r c) x ↔ SolF m W T x := by
 constructor
 ·intro h
  have h0 : dt W T x r = 0 := by
   have := h r hr
   rw [dt_pv_row, Rat.div_def] at this
   rcases Rat.mul_eq_zero.1 this with k | k
   ·exact k
   ·exact absurd (Rat.mul_inv_cancel _ hne) (by rw [k, Rat.mul_zero]; decide)
  intro i hi
  by_cases e : i = r
  ·rw [e]; exact h0
  ·have := h i hi
   rw [dt_pv_ne e, h0, Rat.div_def] at this
   grind
 ·intro h i hi
  by_cases e : i = r
  ·rw [e, dt_pv_row, h r hr, Rat.div_def]; grind
  ·rw [dt_pv_ne e, h i hi, h r hr, Rat.div_def]; grind
theorem tgt_pv (hr : r < m) (h : SolF m W T x) : dt W (pvF T r c) x m = dt W T x m := by
 rw [dt_pv_ne (by omega), h r hr, Rat.div_def]; grind
structure BasF (m W K : Nat) (T : Nat → Nat → Rat) (bs : Nat → Nat) : Prop where
 kw : K ≤ W
 lt : ∀ i, i < m → bs i < K
 unit : ∀ i, i < m → ∀ j, j ≤ m → T j (bs i) = if j = i then 1 else 0
theorem BasF.inj (h : BasF m W K T bs) {i j : Nat} (hi : i < m) (hj : j < m) (e : bs i = bs j) : i = j := by
 have h1 := h.unit i hi j (by omega)
 have h2 := h.unit j hj j (by omega)
 rw [e, h2, if_pos rfl] at h1
 by_cases k : j = i
 ·exact k.symm
 ·rw [if_neg k] at h1; exact absurd h1 (by decide)
theorem BasF.pv (h : BasF m W K T bs) (hr : r < m) (hc : c < K) (hne : T r c ≠ 0) : BasF m W K (pvF T r c) (putB bs r c) where
 kw := h.kw
 lt := fun i hi => by rw [putB]; split; exact hc; exact h.lt i hi
 unit := fun i hi j hj => by
  have hv : T r c * (T r c)⁻¹ = 1 := Rat.mul_inv_cancel _ hne
  rw [putB]
  by_cases e : i = r
  ·rw [if_pos e, pvF]
   by_cases k : j = r
   ·rw [if_pos k, if_pos (by omega), Rat.div_def, hv]
   ·rw [if_neg k, if_neg (by omega), Rat.div_def, hv]; grind
  ·rw [if_neg e, pvF]
   have h1 := h.unit i hi r (by omega)
   rw [if_neg (fun k => e k.symm)] at h1
   by_cases k : j = r
   ·rw [if_pos k, if_neg (by omega), h1, Rat.div_def]; grind
   ·rw [if_neg k, h1, h.unit i hi j hj, Rat.div_def]; grind
def vx (m W : Nat) (bs : Nat → Nat) (p : Rat) (e h : Nat → Rat) : Nat → Rat := fun k => if k = W then p else e k + sm m fun i => if bs i = k then h i else 0
theorem sm_basis {g h : Nat → Rat} (hb : ∀ i, i < m → bs i < W) : (sm W fun k => g k * sm m fun i => if bs i = k then h i else 0) = sm m fun i => g (bs i) * h i := by
 rw [sm_congr W (g := fun k => sm m fun i => if bs i = k then g k * h i else 0) fun k _ => by
  rw [← sm_mul]; exact sm_congr m fun i _ => by split <;> grind]
 rw [sm_comm]
 refine sm_congr m fun i hi => ?_
 rw [sm_one (bs i) W (hb i hi) fun k _ hk => if_neg fun e => hk e.symm, if_pos rfl]
theorem dt_vx (hb : ∀ i, i < m → bs i < W) (p : Rat) (e h : Nat → Rat) (j : Nat) : dt W T (vx m W bs p e h) j = (sm W fun k => T j k * e k) + (sm m fun i => T j (bs i) * h i) + T j W * p := by
 rw [dt, sm, vx, if_pos rfl, sm_congr W (g := fun k => T j k * e k + T j k * sm m fun i => if bs i = k then h i else 0) fun k hk => by rw [vx, if_neg (by omega)]; grind, sm_add, sm_basis hb]
theorem BasF.ltW (h : BasF m W K T bs) : ∀ i, i < m → bs i < W := fun i hi => Nat.lt_of_lt_of_le (h.lt i hi) h.kw
theorem BasF.sum (h : BasF m W K T bs) (f : Nat → Rat) {j : Nat} (hj : j ≤ m) : (sm m fun i => T j (bs i) * f i) = if j < m then f j else 0 := by
 by_cases k : j < m
 ·rw [if_pos k, sm_one j m k fun i hi hk => by rw [h.unit i hi j hj, if_neg (fun e => hk e.symm)]; grind, h.unit j k j hj, if_pos rfl]
  grind
 ·rw [if_neg k]
  exact sm_zero m fun i hi => by rw [h.unit i hi j hj, if_neg (by omega)]; grind
def bx (m W : Nat) (T : Nat → Nat → Rat) (bs : Nat → Nat) : Nat → Rat := vx m W bs (-1) (fun _ => 0) fun i => T i W
theorem BasF.dt_bx (h : BasF m W K T bs) {j : Nat} (hj : j ≤ m) : dt W T (bx m W T bs) j = if j < m then 0 else - T m W := by
 rw [bx, dt_vx h.ltW, h.sum _ hj, sm_zero W fun k _ => by grind]
 by_cases k : j < m
 ·rw [if_pos k, if_pos k]; grind
 ·rw [if_neg k, if_neg k, show j = m by omega]; grind
theorem BasF.sol_bx (h : BasF m W K T bs) : SolF m W T (bx m W T bs) := fun i hi => by rw [h.dt_bx (by omega), if_pos hi]
theorem bx_W : bx m W T bs W = -1 := if_pos rfl
theorem bx_off {v : Nat} (hv : v ≠ W) (h : ∀ i, i < m → bs i ≠ v) : bx m W T bs v = 0 := by
 rw [bx, vx, if_neg hv, sm_zero m fun i hi => if_neg (h i hi)]
 grind
theorem BasF.bx_on (h : BasF m W K T bs) {a : Nat} (ha : a < m) : bx m W T bs (bs a) = T a W := by
 rw [bx, vx, if_neg (by have := h.ltW a ha; omega), sm_one a m ha fun i hi hk => if_neg fun e => hk (h.inj hi ha e), if_pos rfl]
 grind
def dirF (m W : Nat) (T : Nat → Nat → Rat) (bs : Nat → Nat) (s : Nat) : Nat → Rat := vx m W bs 0 (fun k => if k = s then 1 else 0) fun i => - T i s
theorem dt_dir (hb : ∀ i, i < m → bs i < W) {s : Nat} (hs : s < W) (U : Nat → Nat → Rat) (j : Nat) : dt W U (dirF m W T bs s) j = U j s - sm m fun i => U j (bs i) * T i s := by
 rw [dirF, dt_vx hb, sm_one s W hs fun k _ hk => by rw [if_neg hk]; grind, if_pos rfl, sm_congr m (g := fun i => - (U j (bs i) * T i s)) fun i _ => by grind, sm_neg]
 grind
theorem BasF.dt_dir (h : BasF m W K T bs) {s j : Nat} (hs : s < W) (hj : j ≤ m) : dt W T (dirF m W T bs s) j = if j < m then 0 else T m s := by
 rw [YtcgfdfdcbamceaaGreatDoor.dt_dir h.ltW hs, h.sum _ hj]
 by_cases k : j < m
 ·rw [if_pos k, if_pos k]; grind
 ·rw [if_neg k, if_neg k, show j = m by omega]; grind
structure StepF (m W K : Nat) (T : Nat → Nat → Rat) (bs : Nat → Nat) (r c : Nat) : Prop where
 hc : c < K
 hr : r < m
 neg : T m c < 0
 first : ∀ k, k < c → 0 ≤ T m k
 pos : 0 < T r c
 least : ∀ i, i < m → 0 < T i c → T r W * T i c ≤ T i W * T r c
 tie : ∀ i, i < m → 0 < T i c → T i W * T r c = T r W * T i c → bs r ≤ bs i
theorem StepF.ne (h : StepF m W K T bs r c) : T r c ≠ 0 := fun e => by have := h.pos; rw [e] at this; exact absurd this (by decide)
theorem inv_pos' {a : Rat} (h : 0 < a) : 0 < a⁻¹ := Rat.inv_pos.2 h
theorem StepF.nn (h : StepF m W K T bs r c) (hn : ∀ i, i < m → 0 ≤ T i W) : ∀ i, i < m → 0 ≤ pvF T r c i W := by
 intro i hi
 have hp := h.pos
 have hv := inv_pos' hp
 have hv1 : T r c * (T r c)⁻¹ = 1 := Rat.mul_inv_cancel _ h.ne
 have hv0 : 0 ≤ (T r c)⁻¹ := by grind
 rw [pvF]
 by_cases e : i = r
 ·rw [if_pos e, Rat.div_def]; exact Rat.mul_nonneg (hn r h.hr) hv0
 ·rw [if_neg e, Rat.div_def]
  by_cases k : 0 < T i c
  ·have h1 := h.least i hi k
   have h2 : 0 ≤ (T i W * T r c - T r W * T i c) * (T r c)⁻¹ := Rat.mul_nonneg (by grind) hv0
   have e2 : (T i W * T r c - T r W * T i c) * (T r c)⁻¹ = T i W * (T r c * (T r c)⁻¹) - T i c * (T r W * (T r c)⁻¹) := by grind
   rw [e2, hv1] at h2
   grind
  ·have h1 : 0 ≤ - T i c := by have := Rat.not_lt.1 k; grind
   have h2 := Rat.mul_nonneg h1 (Rat.mul_nonneg (hn r h.hr) hv0)
   have h3 := hn i hi
   grind
theorem StepF.grow (h : StepF m W K T bs r c) (hn : ∀ i, i < m → 0 ≤ T i W) : T m W ≤ pvF T r c m W ∧ (pvF T r c m W = T m W → T r W = 0) := by
 have hv := inv_pos' h.pos
 have hv0 : 0 ≤ (T r c)⁻¹ := by grind
 have h1 : 0 ≤ - T m c := by have := h.neg; grind
 have h2 := Rat.mul_nonneg h1 (Rat.mul_nonneg (hn r h.hr) hv0)
 have hm : m ≠ r := by have := h.hr; omega
 rw [pvF, if_neg hm, Rat.div_def]
 refine ⟨by grind, fun e => ?_⟩
 have h3 : T m c * (T r W * (T r c)⁻¹) = 0 := by grind
 rcases Rat.mul_eq_zero.1 h3 with k | k
 ·have := h.neg; rw [k] at this; exact absurd this (by decide)
 ·rcases Rat.mul_eq_zero.1 k with k | k
  ·exact k
  ·rw [k] at hv; exact absurd hv (by decide)
end
structure RunF (m W K N : Nat) (T : Nat → Nat → Nat → Rat) (bs : Nat → Nat → Nat) (r c : Nat → Nat) : Prop where
 bas : BasF m W K (T 0) (bs 0)
 nn : ∀ i, i < m → 0 ≤ T 0 i W
 step : ∀ k, k < N → StepF m W K (T k) (bs k) (r k) (c k)
 nextT : ∀ k, k < N → T (k + 1) = pvF (T k) (r k) (c k)
 nextB : ∀ k, k < N → bs (k + 1) = putB (bs k) (r k) (c k)
section
variable {m W K N : Nat} {T : Nat → Nat → Nat → Rat} {bs : Nat → Nat → Nat} {r c : Nat → Nat}
theorem RunF.inv (h : RunF m W K N T bs r c) : ∀ k, k ≤ N → BasF m W K (T k) (bs k) ∧ (∀ i, i < m → 0 ≤ T k i W)
 | 0, _ => ⟨h.bas, h.nn⟩
 | k + 1, hk => by
  obtain ⟨h1, h2⟩ := h.inv k (by omega)
  have hs := h.step k (by omega)
  rw [h.nextT k (by omega), h.nextB k (by omega)]
  exact ⟨h1.pv hs.hr hs.hc hs.ne, hs.nn h2⟩
theorem RunF.sol (h : RunF m W K N T bs r c) {x : Nat → Rat} {a : Nat} : ∀ b, a ≤ b → b ≤ N → SolF m W (T a) x → SolF m W (T b) x ∧ dt W (T b) x m = dt W (T a) x m
 | 0, hab, _, hs => by obtain rfl : a = 0 := by omega
                       exact ⟨hs, rfl⟩
 | b + 1, hab, hb, hs => by
  by_cases e : a = b + 1
  ·subst e; exact ⟨hs, rfl⟩
  ·obtain ⟨h1, h2⟩ := h.sol b (by omega) (by omega) hs
   have st := h.step b (by omega)
   rw [h.nextT b (by omega)]
   exact ⟨(sol_pv st.hr st.ne).2 h1, (tgt_pv st.hr h1).trans h2⟩
theorem RunF.solBack (h : RunF m W K N T bs r c) {x : Nat → Rat} {a : Nat} : ∀ b, a ≤ b → b ≤ N → SolF m W (T b) x → SolF m W (T a) x
 | 0, hab, _, hs => by obtain rfl : a = 0 := by omega
                       exact hs
 | b + 1, hab, hb, hs => by
  by_cases e : a = b + 1
  ·subst e; exact hs
  ·have st := h.step b (by omega)
   rw [h.nextT b (by omega)] at hs
   exact h.solBack b (by omega) (by omega) ((sol_pv st.hr st.ne).1 hs)
theorem RunF.tgt (h : RunF m W K N T bs r c) {x : Nat → Rat} {a b : Nat} (ha : a ≤ N) (hb : b ≤ N) (hs : SolF m W (T a) x) : dt W (T b) x m = dt W (T a) x m := by
 rcases Nat.le_total a b with k | k
 ·exact (h.sol b k hb hs).2
 ·have h1 := h.solBack a k ha hs
  exact (h.sol a k ha h1).2.symm
def InB (m : Nat) (bs : Nat → Nat) (v : Nat) : Prop := ∃ a, a < m ∧ bs a = v
theorem RunF.leaves (h : RunF m W K N T bs r c) {v i : Nat} : ∀ j, i ≤ j → j ≤ N → InB m (bs i) v → ¬ InB m (bs j) v → ∃ k, i ≤ k ∧ k < j ∧ bs k (r k) = v
 | 0, hij, _, h1, h2 => by obtain rfl : i = 0 := by omega
                           exact absurd h1 h2
 | j + 1, hij, hj, h1, h2 => by
  by_cases e : i = j + 1
  ·subst e; exact absurd h1 h2
  ·by_cases k : InB m (bs j) v
   ·obtain ⟨a, ha, hav⟩ := k
    refine ⟨j, by omega, by omega, ?_⟩
    by_cases q : a = r j
    ·rw [← q]; exact hav
    ·exact absurd ⟨a, ha, by rw [h.nextB j (by omega), putB, if_neg q]; exact hav⟩ h2
   ·obtain ⟨k2, a1, a2, a3⟩ := h.leaves j (by omega) (by omega) h1 k
    exact ⟨k2, a1, by omega, a3⟩
theorem RunF.enters (h : RunF m W K N T bs r c) {v i : Nat} : ∀ j, i ≤ j → j ≤ N → ¬ InB m (bs i) v → InB m (bs j) v → ∃ k, i ≤ k ∧ k < j ∧ c k = v
 | 0, hij, _, h1, h2 => by obtain rfl : i = 0 := by omega
                           exact absurd h2 h1
 | j + 1, hij, hj, h1, h2 => by
  by_cases e : i = j + 1
  ·subst e; exact absurd h2 h1
  ·by_cases k : InB m (bs j) v
   ·obtain ⟨k2, a1, a2, a3⟩ := h.enters j (by omega) (by omega) h1 k
    exact ⟨k2, a1, by omega, a3⟩
   ·obtain ⟨a, ha, hav⟩ := h2
    rw [h.nextB j (by omega), putB] at hav
    by_cases q : a = r j
    ·rw [if_pos q] at hav; exact ⟨j, by omega, by omega, hav⟩
    ·rw [if_neg q] at hav; exact absurd ⟨a, ha, hav⟩ k
theorem RunF.no_cycle (h : RunF m W K N T bs r c) {i j : Nat} (hij : i < j) (hj : j ≤ N) (same : ∀ v, InB m (bs i) v ↔ InB m (bs j) v) : False := by
 -- the value stays
 have hv : T i m W = T j m W := by
  have hb := (h.inv i (by omega)).1
  have hbj := (h.inv j (by omega)).1
  have e1 := h.tgt (b := j) (by omega) (by omega) hb.sol_bx
  rw [hb.dt_bx (Nat.le_refl _), if_neg (by omega)] at e1
  have e2 : dt W (T j) (bx m W (T i) (bs i)) m = - T j m W := by
   rw [dt, sm, bx_W, sm_zero W fun k hk => ?_]
   ·grind
   ·by_cases q : InB m (bs i) k
    ·obtain ⟨a, ha, hav⟩ := (same k).1 q
     have := hbj.unit a ha m (Nat.le_refl _)
     rw [hav, if_neg (by omega)] at this
     rw [this]; grind
    ·rw [bx_off (by omega) fun a ha e => q ⟨a, ha, e⟩]; grind
  grind
 have mono : ∀ b a, a ≤ b → b ≤ N → T a m W ≤ T b m W := by
  intro b
  induction b with
  | zero =>
   intro a ha _
   obtain rfl : a = 0 := by omega
   exact Rat.le_refl
  | succ b ih =>
   intro a ha hb
   by_cases e : a = b + 1
   ·subst e; exact Rat.le_refl
   ·have h1 := ih a (by omega) (by omega)
    have h2 := ((h.step b (by omega)).grow (h.inv b (by omega)).2).1
    rw [← h.nextT b (by omega)] at h2
    exact Rat.le_trans h1 h2
 have flat : ∀ k, i ≤ k → k < j → T k (r k) W = 0 := by
  intro k h1 h2
  have a1 := mono k i h1 (by omega)
  have a2 := mono j (k + 1) (by omega) hj
  have hg := (h.step k (by omega)).grow (h.inv k (by omega)).2
  rw [← h.nextT k (by omega)] at hg
  exact hg.2 (by grind)
 -- the basic solution stays
 have stay : ∀ b, i ≤ b → b ≤ j → ∀ v, bx m W (T b) (bs b) v = bx m W (T i) (bs i) v := by
  intro b
  induction b with
  | zero =>
   intro h1 _ v
   obtain rfl : i = 0 := by omega
   rfl
  | succ b ih =>
   intro h1 h2 v
   by_cases e : i = b + 1
   ·subst e; rfl
   ·rw [← ih (by omega) (by omega) v, bx, bx, vx, vx]
    split
    ·rfl
    ·congr 1
     refine sm_congr m fun a ha => ?_
     have hf := flat b (by omega) (by omega)
     rw [h.nextT b (by omega), h.nextB b (by omega), putB, pvF]
     by_cases q : a = r b
     ·rw [if_pos q, if_pos q, q, hf, Rat.div_def]
      split <;> split <;> grind
     ·rw [if_neg q, if_neg q, hf, Rat.div_def]
      split <;> grind
 -- what goes in or out goes out, and comes in
 have out : ∀ v a b, i ≤ a → a ≤ j → i ≤ b → b ≤ j → InB m (bs a) v → ¬ InB m (bs b) v → (∃ k, i ≤ k ∧ k < j ∧ bs k (r k) = v) ∧ ∃ k, i ≤ k ∧ k < j ∧ c k = v := by
  intro v a b a1 a2 b1 b2 ha hb
  by_cases hab : a ≤ b
  ·refine ⟨?_, ?_⟩
   ·obtain ⟨k, q1, q2, q3⟩ := h.leaves b hab (by omega) ha hb; exact ⟨k, by omega, by omega, q3⟩
   ·by_cases hjv : InB m (bs j) v
    ·obtain ⟨k, q1, q2, q3⟩ := h.enters j b2 (by omega) hb hjv; exact ⟨k, by omega, by omega, q3⟩
    ·obtain ⟨k, q1, q2, q3⟩ := h.enters a a1 (by omega) (fun x => hjv ((same v).1 x)) ha; exact ⟨k, by omega, by omega, q3⟩
  ·refine ⟨?_, ?_⟩
   ·by_cases hiv : InB m (bs i) v
    ·obtain ⟨k, q1, q2, q3⟩ := h.leaves b b1 (by omega) hiv hb; exact ⟨k, by omega, by omega, q3⟩
    ·obtain ⟨k, q1, q2, q3⟩ := h.leaves j a2 (by omega) ha (fun x => hiv ((same v).2 x)); exact ⟨k, by omega, by omega, q3⟩
   ·obtain ⟨k, q1, q2, q3⟩ := h.enters a (by omega) (by omega) hb ha; exact ⟨k, by omega, by omega, q3⟩
 -- the greatest that goes out
 obtain ⟨p, hp1, hp2, hmax⟩ : ∃ p, i ≤ p ∧ p < j ∧ ∀ k, i ≤ k → k < j → bs k (r k) ≤ bs p (r p) := by
  have hm : ∀ d, i + d < j → ∃ p, i ≤ p ∧ p < j ∧ ∀ k, i ≤ k → k ≤ i + d → bs k (r k) ≤ bs p (r p) := by
   intro d
   induction d with
   | zero => intro hd; exact ⟨i, by omega, by omega, fun k k1 k2 => by rw [show k = i by omega]; exact Nat.le_refl _⟩
   | succ d ih =>
    intro hd
    obtain ⟨p, p1, p2, p3⟩ := ih (by omega)
    by_cases q : bs p (r p) ≤ bs (i + (d + 1)) (r (i + (d + 1)))
    ·refine ⟨i + (d + 1), by omega, by omega, fun k k1 k2 => ?_⟩
     by_cases e : k = i + (d + 1)
     ·rw [e]; exact Nat.le_refl _
     ·exact Nat.le_trans (p3 k k1 (by omega)) q
    ·refine ⟨p, p1, p2, fun k k1 k2 => ?_⟩
     by_cases e : k = i + (d + 1)
     ·rw [e]; omega
     ·exact p3 k k1 (by omega)
  obtain ⟨p, p1, p2, p3⟩ := hm (j - 1 - i) (by omega)
  exact ⟨p, p1, p2, fun k k1 k2 => p3 k k1 (by omega)⟩
 have hsp := h.step p (by omega)
 have hbp := (h.inv p (by omega)).1
 have hcp : ¬ InB m (bs p) (c p) := by
  rintro ⟨a, ha, e⟩
  have h1 := hbp.unit a ha m (Nat.le_refl _)
  have h2 := hsp.neg
  rw [e, if_neg (by omega)] at h1
  rw [h1] at h2
  exact absurd h2 (by decide)
 have hin : InB m (bs (p + 1)) (c p) := ⟨r p, hsp.hr, by rw [h.nextB p (by omega), putB, if_pos rfl]⟩
 have htp : InB m (bs p) (bs p (r p)) := ⟨r p, hsp.hr, rfl⟩
 have htn : ¬ InB m (bs (p + 1)) (bs p (r p)) := by
  rintro ⟨a, ha, e⟩
  rw [h.nextB p (by omega), putB] at e
  by_cases q : a = r p
  ·rw [if_pos q] at e; exact hcp ⟨r p, hsp.hr, e.symm⟩
  ·rw [if_neg q] at e; exact q (hbp.inj ha hsp.hr e)
 obtain ⟨q, hq1, hq2, hqt⟩ := (out _ p (p + 1) hp1 (by omega) (by omega) (by omega) htp htn).2
 have hst : c p < bs p (r p) := by
  obtain ⟨k, k1, k2, k3⟩ := (out _ (p + 1) p (by omega) (by omega) hp1 (by omega) hin hcp).1
  have h1 := hmax k k1 k2
  rcases Nat.lt_or_eq_of_le (k3 ▸ h1) with h2 | h2
  ·exact h2
  ·exact absurd (h2 ▸ htp) hcp
 have hsq := h.step q (by omega)
 have hbq := (h.inv q (by omega)).1
 have hsW : c p < W := Nat.lt_of_lt_of_le hsp.hc hbp.kw
 have hd : SolF m W (T p) (dirF m W (T p) (bs p) (c p)) := fun a ha => by rw [hbp.dt_dir hsW (by omega), if_pos ha]
 have e1 := h.tgt (b := q) (by omega) (by omega) hd
 rw [hbp.dt_dir hsW (Nat.le_refl _), if_neg (by omega), dt_dir hbp.ltW hsW] at e1
 have h1 := hsq.first (c p) (by omega)
 have h2 := hsp.neg
 obtain ⟨a, ha, hpos⟩ := sm_pos_ex (show 0 < sm m fun a => T q m (bs p a) * T p a (c p) by grind)
 have hz : T q m (bs p a) ≠ 0 := fun e => by rw [e, Rat.zero_mul] at hpos; exact absurd hpos (by decide)
 have hnq : ¬ InB m (bs q) (bs p a) := by
  rintro ⟨b, hb, e⟩
  have := hbq.unit b hb m (Nat.le_refl _)
  rw [e, if_neg (by omega)] at this
  exact hz this
 have hpa : InB m (bs p) (bs p a) := ⟨a, ha, rfl⟩
 obtain ⟨k, k1, k2, k3⟩ := (out _ p q hp1 (by omega) hq1 (by omega) hpa hnq).1
 have hle := hmax k k1 k2
 rw [k3] at hle
 have hlt : bs p a < bs p (r p) := by
  rcases Nat.lt_or_eq_of_le hle with h3 | h3
  ·exact h3
  ·exfalso
   have e3 := hbp.inj ha hsp.hr h3
   rw [e3] at hpos
   have h4 := hsq.neg
   rw [hqt] at h4
   have h5 := hsp.pos
   have h6 : 0 ≤ - T q m (bs p (r p)) := by grind
   have h7 := Rat.mul_nonneg h6 (show 0 ≤ T p (r p) (c p) by grind)
   grind
 have h3 := hsq.first (bs p a) (by omega)
 have h4 : 0 < T p a (c p) := by
  by_cases w : 0 < T p a (c p)
  ·exact w
  ·exfalso
   have q := Rat.not_lt.1 w
   have h7 := Rat.mul_nonneg h3 (show 0 ≤ - T p a (c p) by grind)
   grind
 have h5 : T p a W = 0 := by
  rw [← hbp.bx_on ha, stay p hp1 (by omega), ← stay q hq1 (by omega)]
  exact bx_off (by have := hbp.ltW a ha; omega) fun b hb e => hnq ⟨b, hb, e⟩
 have h6 := hsp.tie a ha h4 (by rw [h5, flat p hp1 hp2]; grind)
 omega
end
theorem pigeon : ∀ (M : Nat) (f : Nat → Nat), (∀ k, k ≤ M → f k < M) → ∃ i j, i < j ∧ j ≤ M ∧ f i = f j
 | 0, f, h => absurd (h 0 (Nat.le_refl _)) (by omega)
 | M + 1, f, h => by
  by_cases e : ∃ i, i ≤ M ∧ f i = f (M + 1)
  ·obtain ⟨i, hi, e⟩ := e
   exact ⟨i, M + 1, by omega, Nat.le_refl _, e⟩
  ·have h1 := h (M + 1) (Nat.le_refl _)
   obtain ⟨i, j, hij, hj, e2⟩ := pigeon M (fun k => if f k = M then f (M + 1) else f k) fun k hk => by
    have h2 := h k (by omega)
    have h3 : f k ≠ f (M + 1) := fun q => e ⟨k, hk, q⟩
    split <;> omega
   have h2 : f i ≠ f (M + 1) := fun q => e ⟨i, by omega, q⟩
   have h3 : f j ≠ f (M + 1) := fun q => e ⟨j, by omega, q⟩
   refine ⟨i, j, hij, by omega, ?_⟩
   split at e2 <;> split at e2 <;> omega
def encB (K : Nat) (bs : Nat → Nat) : Nat → Nat
 | 0 => 0
 | m + 1 => encB K bs m + bs m * K ^ m
theorem encB_lt {K : Nat} {bs : Nat → Nat} : ∀ m, (∀ i, i < m → bs i < K) → encB K bs m < K ^ m
 | 0, _ => by simp [encB]
 | m + 1, h => by
  have h1 := encB_lt m fun i hi => h i (by omega)
  have h2 := h m (by omega)
  have h3 : (bs m + 1) * K ^ m ≤ K * K ^ m := Nat.mul_le_mul_right _ h2
  rw [encB, Nat.pow_succ, Nat.mul_comm (K ^ m) K]
  rw [Nat.add_mul, Nat.one_mul] at h3
  omega
theorem encB_inj {K : Nat} {f g : Nat → Nat} : ∀ m, (∀ i, i < m → f i < K) → (∀ i, i < m → g i < K) → encB K f m = encB K g m → ∀ i, i < m → f i = g i
 | 0, _, _, _, i, hi => absurd hi (by omega)
 | m + 1, hf, hg, e, i, hi => by
  have a := encB_lt m fun i hi => hf i (by omega)
  have b := encB_lt m fun i hi => hg i (by omega)
  rw [encB, encB] at e
  have hp : 0 < K ^ m := by omega
  have e1 : (encB K f m + f m * K ^ m) / K ^ m = f m := by rw [Nat.add_mul_div_right _ _ hp, Nat.div_eq_of_lt a, Nat.zero_add]
  have e2 : (encB K g m + g m * K ^ m) / K ^ m = g m := by rw [Nat.add_mul_div_right _ _ hp, Nat.div_eq_of_lt b, Nat.zero_add]
  have e3 : f m = g m := by rw [← e1, ← e2, e]
  by_cases k : i = m
  ·rw [k]; exact e3
  ·rw [e3] at e
   exact encB_inj m (fun i hi => hf i (by omega)) (fun i hi => hg i (by omega)) (by omega) i (by omega)
theorem RunF.short {m W K N : Nat} {T : Nat → Nat → Nat → Rat} {bs : Nat → Nat → Nat} {r c : Nat → Nat} (h : RunF m W K N T bs r c) : N < K ^ m := by
 rcases Nat.lt_or_ge N (K ^ m) with k | k
 ·exact k
 ·exfalso
  obtain ⟨i, j, hij, hj, e⟩ := pigeon (K ^ m) (fun k => encB K (bs k) m) fun q hq => encB_lt m (h.inv q (by omega)).1.lt
  have he := encB_inj m (h.inv i (by omega)).1.lt (h.inv j (by omega)).1.lt e
  refine h.no_cycle hij (by omega) fun v => ⟨?_, ?_⟩
  ·rintro ⟨a, ha, q⟩; exact ⟨a, ha, by rw [← he a ha]; exact q⟩
  ·rintro ⟨a, ha, q⟩; exact ⟨a, ha, by rw [he a ha]; exact q⟩
structure TabQ where
 rows : List (List Rat)
 tgt : List Rat
 bas : List Nat
 cols : Nat
def ent (m : List (List Rat)) (i k : Nat) : Rat := (m.getD i []).getD k 0
def clearQ (p : List Rat) (c : Nat) (row : List Rat) : List Rat := List.zipWith (fun x y => x - row.getD c 0 * y) row p
def pivRow (t : TabQ) (r c : Nat) : List Rat := (t.rows.getD r []).map fun x => x / ent t.rows r c
def pivQ (t : TabQ) (r c : Nat) : TabQ :=
 ⟨t.rows.mapIdx fun i row => if i = r then pivRow t r c else clearQ (pivRow t r c) c row, clearQ (pivRow t r c) c t.tgt, t.bas.set r c, t.cols⟩
def tabF (t : TabQ) (i k : Nat) : Rat := if i < t.rows.length then ent t.rows i k else t.tgt.getD k 0
def basF (t : TabQ) (i : Nat) : Nat := t.bas.getD i 0
structure ShQ (t : TabQ) (m W : Nat) : Prop where
 len : t.rows.length = m
 row : ∀ r ∈ t.rows, r.length = W + 1
 tgt : t.tgt.length = W + 1
 bas : t.bas.length = m
theorem getD_map_div (l : List Rat) (d : Rat) (k : Nat) : (l.map fun x => x / d).getD k 0 = l.getD k 0 / d := by
 rw [List.getD_eq_getElem?_getD, List.getD_eq_getElem?_getD, List.getElem?_map]
 cases l[k]? with
 | none => simp only [Option.map_none, Option.getD_none]; rw [Rat.div_def, Rat.zero_mul]
 | some x => rfl
theorem clear_at {p row : List Rat} (h : row.length = p.length) (c k : Nat) : (clearQ p c row).getD k 0 = row.getD k 0 - row.getD c 0 * p.getD k 0 := by
 rw [clearQ, List.getD_eq_getElem?_getD, List.getElem?_zipWith, List.getD_eq_getElem?_getD (l := row) (i := k), List.getD_eq_getElem?_getD (l := p) (i := k)]
 by_cases hk : k < row.length
 ·rw [List.getElem?_eq_getElem hk, List.getElem?_eq_getElem (by omega)]
  rfl
 ·rw [List.getElem?_eq_none (by omega), List.getElem?_eq_none (l := p) (by omega)]
  simp only [Option.getD_none]
  grind
theorem clear_len {p row : List Rat} (h : row.length = p.length) (c : Nat) : (clearQ p c row).length = row.length := by rw [clearQ, List.length_zipWith]; omega
section
variable {t : TabQ} {m W r c : Nat}
theorem ShQ.rowAt (h : ShQ t m W) {i : Nat} (hi : i < m) : (t.rows.getD i []).length = W + 1 := by
 have hl := h.len
 rw [List.getD_eq_getElem?_getD, List.getElem?_eq_getElem (by omega)]
 exact h.row _ (List.getElem_mem _)
theorem pivRow_len (h : ShQ t m W) (hr : r < m) : (pivRow t r c).length = W + 1 := by rw [pivRow, List.length_map, h.rowAt hr]
theorem pivRow_at (t : TabQ) (r c k : Nat) : (pivRow t r c).getD k 0 = ent t.rows r k / ent t.rows r c := getD_map_div _ _ _
theorem ShQ.piv (h : ShQ t m W) (hr : r < m) (c : Nat) : ShQ (pivQ t r c) m W where
 len := by rw [pivQ, List.length_mapIdx, h.len]
 row := fun x hx => by
  rw [pivQ] at hx
  obtain ⟨i, hi, rfl⟩ := List.mem_mapIdx.1 hx
  split
  ·exact pivRow_len h hr
  ·have := h.row _ (List.getElem_mem hi)
   rw [clear_len (by rw [this, pivRow_len h hr]), this]
 tgt := by rw [pivQ, clear_len (by rw [h.tgt, pivRow_len h hr]), h.tgt]
 bas := by rw [pivQ, List.length_set, h.bas]
theorem tabF_row (h : ShQ t m W) {i : Nat} (hi : i < m) (k : Nat) : tabF t i k = ent t.rows i k := if_pos (by rw [h.len]; exact hi)
theorem tabF_tgt (h : ShQ t m W) (k : Nat) : tabF t m k = t.tgt.getD k 0 := if_neg (by rw [h.len]; omega)
theorem ent_piv (h : ShQ t m W) (hr : r < m) {i : Nat} (hi : i < m) (k : Nat) : ent (pivQ t r c).rows i k = if i = r then ent t.rows r k / ent t.rows r c else ent t.rows i k - ent t.rows i c * (ent t.rows r k / ent t.rows r c) := by
 have hl := h.len
 rw [ent, pivQ, List.getD_eq_getElem?_getD (l := t.rows.mapIdx _), List.getElem?_mapIdx, List.getElem?_eq_getElem (by omega), Option.map_some, Option.getD_some]
 have e : t.rows[i] = t.rows.getD i [] := by rw [List.getD_eq_getElem?_getD, List.getElem?_eq_getElem (by omega)]; rfl
 split
 ·exact pivRow_at t r c k
 ·rw [clear_at (by rw [e, h.rowAt hi, pivRow_len h hr]), pivRow_at, e]
  rfl
theorem tabF_piv (h : ShQ t m W) (hr : r < m) : tabF (pivQ t r c) = pvF (tabF t) r c := by
 funext i k
 have hl := h.len
 have hp := (h.piv hr c).len
 rw [pvF, tabF_row h hr, tabF_row h hr]
 by_cases hi : i < m
 ·rw [tabF_row (h.piv hr c) hi, ent_piv h hr hi, tabF_row h hi, tabF_row h hi]
 ·rw [if_neg (by omega), tabF, if_neg (by omega), tabF, if_neg (by omega), tabF, if_neg (by omega)]
  rw [show (pivQ t r c).tgt = clearQ (pivRow t r c) c t.tgt from rfl, clear_at (by rw [h.tgt, pivRow_len h hr]), pivRow_at]
theorem basF_piv (h : ShQ t m W) (hr : r < m) : basF (pivQ t r c) = putB (basF t) r c := by
 have hl := h.bas
 funext i
 rw [basF, putB, basF, pivQ, List.getD_eq_getElem?_getD, List.getElem?_set]
 by_cases e : r = i
 ·rw [if_pos e, if_pos (by omega), if_pos e.symm]; rfl
 ·rw [if_neg e, if_neg (fun k => e k.symm), List.getD_eq_getElem?_getD]
end
def enterQ (t : TabQ) : Option Nat := (List.range t.cols).find? fun k => decide (t.tgt.getD k 0 < 0)
def betterQ (t : TabQ) (c W i r : Nat) : Bool := decide (ent t.rows i W * ent t.rows r c < ent t.rows r W * ent t.rows i c) || (decide (ent t.rows i W * ent t.rows r c = ent t.rows r W * ent t.rows i c) && decide (basF t i < basF t r))
def leaveN (t : TabQ) (c W : Nat) : Nat → Option Nat
 | 0 => none
 | i + 1 => if ent t.rows i c ≤ 0 then leaveN t c W i else match leaveN t c W i with
  | none => some i
  | some r => if betterQ t c W i r = true then some i else some r
def endW (t : TabQ) : Nat := t.tgt.length - 1
def leaveQ (t : TabQ) (c : Nat) : Option Nat := leaveN t c (endW t) t.rows.length
theorem enter_none {t : TabQ} (h : enterQ t = none) : ∀ k, k < t.cols → 0 ≤ t.tgt.getD k 0 := by
 intro k hk
 have := List.find?_eq_none.1 h k (List.mem_range.2 hk)
 rw [decide_eq_true_iff] at this
 exact Rat.not_lt.1 this
theorem enter_some {t : TabQ} {c : Nat} (h : enterQ t = some c) : c < t.cols ∧ t.tgt.getD c 0 < 0 ∧ ∀ k, k < c → 0 ≤ t.tgt.getD k 0 := by
 rw [enterQ, List.find?_eq_some_iff_getElem] at h
 obtain ⟨h1, i, hi, e, h2⟩ := h
 rw [List.length_range] at hi
 rw [List.getElem_range] at e
 subst e
 rw [decide_eq_true_iff] at h1
 refine ⟨hi, h1, fun k hk => ?_⟩
 have := h2 k hk
 rw [List.getElem_range] at this
 simp only [Bool.not_eq_eq_eq_not, Bool.not_true, decide_eq_false_iff_not] at this
 exact Rat.not_lt.1 this
theorem cross_lt {x y a b d : Rat} (hd : 0 < d) (h : x * d < y * d) (_ : a = b) : x < y := by
 by_cases k : x < y
 ·exact k
 ·exfalso
  have h1 := Rat.not_lt.1 k
  have h2 := Rat.mul_nonneg (show 0 ≤ x - y by grind) (show 0 ≤ d by grind)
  grind
def NoWorse (t : TabQ) (c W r l : Nat) : Prop := ent t.rows r W * ent t.rows l c < ent t.rows l W * ent t.rows r c ∨ (ent t.rows r W * ent t.rows l c = ent t.rows l W * ent t.rows r c ∧ basF t r ≤ basF t l)
theorem NoWorse.trans {t : TabQ} {c W a b l : Nat} (pa : 0 < ent t.rows a c) (pb : 0 < ent t.rows b c) (pl : 0 < ent t.rows l c) (h1 : NoWorse t c W a b) (h2 : NoWorse t c W b l) : NoWorse t c W a l := by
 unfold NoWorse at *
 generalize ent t.rows a W = xa at *
 generalize ent t.rows b W = xb at *
 generalize ent t.rows l W = xl at *
 generalize ent t.rows a c = a' at *
 generalize ent t.rows b c = b' at *
 generalize ent t.rows l c = l' at *
 rcases h1 with h1 | ⟨h1, e1⟩
 ·refine .inl (cross_lt (a := 0) (b := 0) pb ?_ rfl)
  have k1 := Rat.mul_pos (show 0 < xb * a' - xa * b' by grind) pl
  have k2 : 0 ≤ (xl * b' - xb * l') * a' := by
   refine Rat.mul_nonneg ?_ (by grind)
   rcases h2 with h2 | ⟨h2, _⟩ <;> grind
  grind
 ·rcases h2 with h2 | ⟨h2, e2⟩
  ·refine .inl (cross_lt (a := 0) (b := 0) pb ?_ rfl)
   have k1 := Rat.mul_pos (show 0 < xl * b' - xb * l' by grind) pa
   have k2 : xa * b' * l' = xb * a' * l' := by rw [h1]
   grind
  ·refine .inr ⟨?_, by omega⟩
   have k2 : xa * b' * l' = xb * a' * l' := by rw [h1]
   have k3 : xb * l' * a' = xl * b' * a' := by rw [h2]
   have hb : b' ≠ 0 := fun e => by rw [e] at pb; exact absurd pb (by decide)
   have k4 : (xa * l' - xl * a') * b' = 0 := by grind
   rcases Rat.mul_eq_zero.1 k4 with k | k
   ·grind
   ·exact absurd k hb
theorem better_iff {t : TabQ} {c W i r : Nat} : betterQ t c W i r = true ↔ ent t.rows i W * ent t.rows r c < ent t.rows r W * ent t.rows i c ∨ (ent t.rows i W * ent t.rows r c = ent t.rows r W * ent t.rows i c ∧ basF t i < basF t r) := by
 rw [betterQ, Bool.or_eq_true, Bool.and_eq_true, decide_eq_true_iff, decide_eq_true_iff, decide_eq_true_iff]
theorem leaveN_spec (t : TabQ) (c W : Nat) : ∀ n, (leaveN t c W n = none → ∀ i, i < n → ent t.rows i c ≤ 0) ∧ (∀ r, leaveN t c W n = some r → r < n ∧ 0 < ent t.rows r c ∧ ∀ i, i < n → 0 < ent t.rows i c → NoWorse t c W r i)
 | 0 => ⟨fun _ i hi => absurd hi (by omega), fun r h => by rw [leaveN] at h; cases h⟩
 | n + 1 => by
  obtain ⟨h1, h2⟩ := leaveN_spec t c W n
  rw [leaveN]
  by_cases hp : ent t.rows n c ≤ 0
  ·rw [if_pos hp]
   refine ⟨fun h i hi => ?_, fun r h => ?_⟩
   ·by_cases e : i = n
    ·rw [e]; exact hp
    ·exact h1 h i (by omega)
   ·obtain ⟨a1, a2, a3⟩ := h2 r h
    refine ⟨by omega, a2, fun i hi hpi => ?_⟩
    by_cases e : i = n
    ·rw [e] at hpi; exact absurd hp (Rat.not_le.2 hpi)
    ·exact a3 i (by omega) hpi
  ·rw [if_neg hp]
   have hp' := Rat.not_le.1 hp
   cases hl : leaveN t c W n with
   | none =>
    refine ⟨fun h => (by cases h), fun r h => ?_⟩
    injection h with h
    subst h
    refine ⟨by omega, hp', fun i hi hpi => ?_⟩
    by_cases e : i = n
    ·rw [e]; exact .inr ⟨rfl, Nat.le_refl _⟩
    ·exact absurd (h1 hl i (by omega)) (Rat.not_le.2 hpi)
   | some q =>
    obtain ⟨a1, a2, a3⟩ := h2 q hl
    simp only
    by_cases hb : betterQ t c W n q = true
    ·rw [if_pos hb]
     refine ⟨fun h => (by cases h), fun r h => ?_⟩
     injection h with h
     subst h
     have hnw : NoWorse t c W n q := by
      rcases better_iff.1 hb with k | ⟨k, k2⟩
      ·exact .inl k
      ·exact .inr ⟨k, by omega⟩
     refine ⟨by omega, hp', fun i hi hpi => ?_⟩
     by_cases e : i = n
     ·rw [e]; exact .inr ⟨rfl, Nat.le_refl _⟩
     ·exact hnw.trans hp' a2 hpi (a3 i (by omega) hpi)
    ·rw [if_neg hb]
     refine ⟨fun h => (by cases h), fun r h => ?_⟩
     injection h with h
     subst h
     refine ⟨by omega, a2, fun i hi hpi => ?_⟩
     by_cases e : i = n
     ·rw [e]
      by_cases k : ent t.rows q W * ent t.rows n c < ent t.rows n W * ent t.rows q c
      ·exact .inl k
      ·have k2 := Rat.not_lt.1 k
       refine .inr ⟨?_, ?_⟩
       ·by_cases k3 : ent t.rows n W * ent t.rows q c < ent t.rows q W * ent t.rows n c
        ·exact absurd (better_iff.2 (.inl k3)) hb
        ·have := Rat.not_lt.1 k3
         exact Rat.le_antisymm this k2
       ·rcases Nat.lt_or_ge (basF t n) (basF t q) with k4 | k4
        ·exfalso
         have k5 : ¬ ent t.rows n W * ent t.rows q c < ent t.rows q W * ent t.rows n c := fun k3 => hb (better_iff.2 (.inl k3))
         have k6 := Rat.not_lt.1 k5
         exact hb (better_iff.2 (.inr ⟨Rat.le_antisymm k2 k6, k4⟩))
        ·exact k4
     ·exact a3 i (by omega) hpi
def improveQ : Nat → TabQ → TabQ × Option Nat
 | 0, t => (t, none)
 | f + 1, t => match enterQ t with
  | none => (t, none)
  | some c => match leaveQ t c with
   | none => (t, some c)
   | some r => improveQ f (pivQ t r c)
structure InvQ (m W K : Nat) (T0 : Nat → Nat → Rat) (t : TabQ) : Prop where
 sh : ShQ t m W
 cols : t.cols = K
 bas : BasF m W K (tabF t) (basF t)
 sol : ∀ x, SolF m W (tabF t) x ↔ SolF m W T0 x
 comb : ∃ M : Nat → Nat → Rat, ∀ i, i < m → ∀ k, k ≤ W → tabF t i k = sm m fun j => M i j * T0 j k
 tgt : ∃ y : Nat → Rat, ∀ k, k ≤ W → tabF t m k = T0 m k + sm m fun j => y j * T0 j k
structure InvP (m W K : Nat) (T0 : Nat → Nat → Rat) (t : TabQ) : Prop extends InvQ m W K T0 t where
 nn : ∀ i, i < m → 0 ≤ tabF t i W
section
variable {m W K : Nat} {T0 : Nat → Nat → Rat} {t : TabQ} {r c : Nat}
theorem step_of (h : InvP m W K T0 t) (he : enterQ t = some c) (hl : leaveQ t c = some r) : StepF m W K (tabF t) (basF t) r c := by
 obtain ⟨h1, h2, h3⟩ := enter_some he
 have hw : endW t = W := by rw [endW, h.sh.tgt]; omega
 rw [leaveQ, hw, h.sh.len] at hl
 obtain ⟨g1, g2, g3⟩ := (leaveN_spec t c W m).2 r hl
 rw [h.cols] at h1
 refine ⟨h1, g1, by rw [tabF_tgt h.sh]; exact h2, fun k hk => by rw [tabF_tgt h.sh]; exact h3 k hk, by rw [tabF_row h.sh g1]; exact g2, fun i hi hp => ?_, fun i hi hp e => ?_⟩
 ·rw [tabF_row h.sh hi] at hp
  rw [tabF_row h.sh g1, tabF_row h.sh hi, tabF_row h.sh hi, tabF_row h.sh g1]
  rcases g3 i hi hp with k | ⟨k, _⟩
  ·grind
  ·rw [k]; exact Rat.le_refl
 ·rw [tabF_row h.sh hi] at hp
  rw [tabF_row h.sh g1, tabF_row h.sh hi, tabF_row h.sh hi, tabF_row h.sh g1] at e
  rcases g3 i hi hp with k | ⟨_, k⟩
  ·rw [e] at k; exact absurd k Rat.lt_irrefl
  ·exact k
theorem InvQ.piv (h : InvQ m W K T0 t) (hr : r < m) (hc : c < K) (hne : tabF t r c ≠ 0) : InvQ m W K T0 (pivQ t r c) := by
 have e := tabF_piv (c := c) h.sh hr
 refine ⟨h.sh.piv hr c, h.cols, ?_, ?_, ?_, ?_⟩
 ·rw [e, basF_piv h.sh hr]
  exact h.bas.pv hr hc hne
 ·intro x; rw [e, sol_pv hr hne]; exact h.sol x
 ·obtain ⟨M, hM⟩ := h.comb
  refine ⟨fun i j => if i = r then M r j * (tabF t r c)⁻¹ else M i j - tabF t i c * (M r j * (tabF t r c)⁻¹), fun i hi k hk => ?_⟩
  rw [e, pvF]
  by_cases q : i = r
  ·rw [if_pos q, sm_congr m (g := fun j => (tabF t r c)⁻¹ * (M r j * T0 j k)) fun j _ => by simp only [if_pos q]; grind, sm_mul, ← hM r hr k hk, Rat.div_def]
   grind
  ·rw [if_neg q, sm_congr m (g := fun j => 1 * (M i j * T0 j k) + (-(tabF t i c * (tabF t r c)⁻¹)) * (M r j * T0 j k)) fun j _ => by simp only [if_neg q]; grind, sm_lin, ← hM r hr k hk, ← hM i hi k hk, Rat.div_def]
   grind
 ·obtain ⟨M, hM⟩ := h.comb
  obtain ⟨y, hy⟩ := h.tgt
  refine ⟨fun j => y j - tabF t m c * (M r j * (tabF t r c)⁻¹), fun k hk => ?_⟩
  rw [e, pvF, if_neg (by omega), sm_congr m (g := fun j => 1 * (y j * T0 j k) + (-(tabF t m c * (tabF t r c)⁻¹)) * (M r j * T0 j k)) fun j _ => by grind, sm_lin, ← hM r hr k hk, hy k hk, Rat.div_def]
  grind
theorem InvP.piv (h : InvP m W K T0 t) (hs : StepF m W K (tabF t) (basF t) r c) : InvP m W K T0 (pivQ t r c) := ⟨h.toInvQ.piv hs.hr hs.hc hs.ne, by rw [tabF_piv h.sh hs.hr]; exact hs.nn h.nn⟩
structure EndP (m W K : Nat) (T0 : Nat → Nat → Rat) (t : TabQ) (o : Option Nat) : Prop where
 inv : InvP m W K T0 t
 best : o = none → ∀ k, k < K → 0 ≤ tabF t m k
 free : ∀ c, o = some c → c < K ∧ tabF t m c < 0 ∧ ∀ i, i < m → tabF t i c ≤ 0
theorem improve_run : ∀ (f N : Nat) (T : Nat → Nat → Nat → Rat) (bs : Nat → Nat → Nat) (rr cc : Nat → Nat) (t : TabQ), RunF m W K N T bs rr cc → T N = tabF t → bs N = basF t → InvP m W K T0 t → K ^ m ≤ N + f → EndP m W K T0 (improveQ f t).1 (improveQ f t).2
 | 0, N, T, bs, rr, cc, t, hr, _, _, _, hN => absurd hr.short (by omega)
 | f + 1, N, T, bs, rr, cc, t, hr, hT, hb, hi, hN => by
  rw [improveQ]
  cases he : enterQ t with
  | none =>
   refine ⟨hi, fun _ k hk => ?_, fun c e => (by cases e)⟩
   rw [tabF_tgt hi.sh]
   exact enter_none he k (by rw [hi.cols]; exact hk)
  | some c =>
   simp only
   cases hl : leaveQ t c with
   | none =>
    obtain ⟨h1, h2, h3⟩ := enter_some he
    have hw : endW t = W := by rw [endW, hi.sh.tgt]; omega
    rw [leaveQ, hw, hi.sh.len] at hl
    refine ⟨hi, fun e => (by cases e), fun c' e => ?_⟩
    injection e with e
    subst e
    exact ⟨by rw [← hi.cols]; exact h1, by rw [tabF_tgt hi.sh]; exact h2, fun i hm => by rw [tabF_row hi.sh hm]; exact (leaveN_spec t c W m).1 hl i hm⟩
   | some r =>
    simp only
    have hs := step_of hi he hl
    refine improve_run f (N + 1) (fun k => if k ≤ N then T k else tabF (pivQ t r c)) (fun k => if k ≤ N then bs k else basF (pivQ t r c)) (fun k => if k = N then r else rr k) (fun k => if k = N then c else cc k) (pivQ t r c) ?_ (if_neg (by omega)) (if_neg (by omega)) (hi.piv hs) (by omega)
    refine ⟨?_, ?_, fun k hk => ?_, fun k hk => ?_, fun k hk => ?_⟩
    ·rw [if_pos (by omega), if_pos (by omega)]; exact hr.bas
    ·rw [if_pos (by omega)]; exact hr.nn
    ·by_cases kN : k = N
     ·subst kN
      simp only [Nat.le_refl, if_true]
      rw [hT, hb]
      exact hs
     ·simp only [if_pos (show k ≤ N by omega), if_neg kN]
      exact hr.step k (by omega)
    ·by_cases kN : k = N
     ·subst kN
      simp only [Nat.le_refl, if_true, if_neg (show ¬ k + 1 ≤ k by omega)]
      rw [hT]
      exact tabF_piv hi.sh hs.hr
     ·simp only [if_pos (show k ≤ N by omega), if_pos (show k + 1 ≤ N by omega), if_neg kN]
      exact hr.nextT k (by omega)
    ·by_cases kN : k = N
     ·subst kN
      simp only [Nat.le_refl, if_true, if_neg (show ¬ k + 1 ≤ k by omega)]
      rw [hb]
      exact basF_piv hi.sh hs.hr
     ·simp only [if_pos (show k ≤ N by omega), if_pos (show k + 1 ≤ N by omega), if_neg kN]
      exact hr.nextB k (by omega)
end
end Go.Proofs.YtcgfdfdcbamceaaGreatDoor
