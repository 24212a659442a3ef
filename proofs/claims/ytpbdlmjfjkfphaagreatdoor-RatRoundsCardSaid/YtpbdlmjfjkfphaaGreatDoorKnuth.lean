/- Knuth's division by words: plain facts. No program here. -/
import Derived.Test.YtpbdlmjfjkfphaaGreatDoorMul
namespace Go.Proofs.YtpbdlmjfjkfphaaGreatDoor

theorem est_low {q V2 vl T3 xl D : Int} (hD : 0 < D) (hq : 0 ≤ q) (hvl : 0 ≤ vl) (hxl : xl < D) (h : q * (V2 * D + vl) ≤ T3 * D + xl) : q * V2 ≤ T3 := by
  have h1 : 0 ≤ q * vl := Int.mul_nonneg hq hvl
  have h2 : q * V2 * D < (T3 + 1) * D := by grind
  have := Int.lt_of_mul_lt_mul_right h2 (by omega)
  omega
theorem est_high {g V2 vl T3 xl D : Int} (hD : 0 < D) (hg : 0 ≤ g) (hg1 : g < 4294967296) (hvl : 0 ≤ vl) (hvl1 : vl < D) (hxl : 0 ≤ xl) (h : g * V2 ≤ T3) (hV : 4294967296 ≤ V2) : (g - 1) * (V2 * D + vl) ≤ T3 * D + xl := by
  have h1 : g * V2 * D ≤ T3 * D := Int.mul_le_mul_of_nonneg_right h (by omega)
  have h2 : g * vl ≤ 4294967296 * D := Int.mul_le_mul (by omega) (by omega) hvl (by omega)
  have h3 : 4294967296 * D ≤ V2 * D := Int.mul_le_mul_of_nonneg_right hV (by omega)
  grind
theorem val_zero : ∀ {l : List Int}, (∀ k, l.getD k 0 = 0) → val l = 0
  | [], _ => rfl
  | x :: l, h => by
    have h0 := h 0
    have h1 := val_zero (l := l) fun k => by have := h (k + 1); simpa using this
    simp only [List.getD_cons_zero] at h0
    rw [val, h0, h1]; rfl
theorem val_above {l : List Int} {K : Nat} (h : ∀ k, K ≤ k → l.getD k 0 = 0) : val l = val (l.take K) := by
  have h1 : val (l.drop K) = 0 := val_zero fun k => by
    have := h (K + k) (by omega)
    simpa [List.getD_eq_getElem?_getD] using this
  have h2 := val_take_drop l K
  rw [h1] at h2
  omega
theorem val_lt_above {l : List Int} (ol : Ok l) {K : Nat} (h : ∀ k, K ≤ k → l.getD k 0 = 0) : val l < P32 K := by
  have h1 := val_lt (ol.take K)
  rw [← val_above h] at h1
  have h2 := P32_mono (i := (l.take K).length) (j := K) (by rw [List.length_take]; omega)
  omega
theorem zero_above {l : List Int} (ol : Ok l) {K : Nat} (h : val l < P32 K) {k : Nat} (hk : K ≤ k) : l.getD k 0 = 0 := by
  by_cases hl : k < l.length
  · have h1 := val_take_drop l k
    have h2 := val_nonneg (ol.take k)
    have e1 : l.drop k = l.getD k 0 :: l.drop (k + 1) := by rw [List.drop_eq_getElem_cons hl, List.getD_eq_getElem?_getD, List.getElem?_eq_getElem hl]; rfl
    have h3 := val_nonneg (ol.drop (k + 1))
    have h4 := ol.at_ k
    rw [e1, val] at h1
    have h5 := P32_mono hk
    have h6 := P32_pos k
    by_cases h7 : l.getD k 0 = 0
    · exact h7
    · have h8 : P32 k * 1 ≤ P32 k * (l.getD k 0 + 4294967296 * val (l.drop (k + 1))) := Int.mul_le_mul_of_nonneg_left (by omega) (by omega)
      omega
  · rw [List.getD_eq_getElem?_getD, List.getElem?_eq_none (by omega)]; rfl
/-- what the leading words tell of u and of the divisor -/
structure Tops (X Vj uh um ul vt vs : Int) : Prop where
  ex : ∃ D vl xl : Int, 0 < D ∧ Vj = (vt * 4294967296 + vs) * D + vl ∧ 0 ≤ vl ∧ vl < D ∧ X = ((uh * 4294967296 + um) * 4294967296 + ul) * D + xl ∧ 0 ≤ xl ∧ xl < D
  huh : uh ≤ vt
  hum : 0 ≤ um ∧ um < 4294967296
  hul : 0 ≤ ul ∧ ul < 4294967296
  hvt : 2147483648 ≤ vt ∧ vt < 4294967296
  hvs : 0 ≤ vs ∧ vs < 4294967296
theorem tops {u v : List Int} (ou : Ok u) (ov : Ok v) {j n : Nat} (hn : 2 ≤ n) (hv : v.length = n) (hlt : val u < val v * P32 (j + 1)) (ht : 2147483648 ≤ v.getD (n - 1) 0) :
    Tops (val u) (val v * P32 j) (u.getD (j + n) 0) (u.getD (j + n - 1) 0) (u.getD (j + n - 2) 0) (v.getD (n - 1) 0) (v.getD (n - 2) 0) := by
  obtain ⟨k, rfl⟩ : ∃ k, n = k + 2 := ⟨n - 2, by omega⟩
  have i1 : k + 2 - 1 = k + 1 := by omega
  have i2 : k + 2 - 2 = k := by omega
  have i3 : j + (k + 2) - 1 = j + k + 1 := by omega
  have i4 : j + (k + 2) - 2 = j + k := by omega
  have i5 : j + (k + 2) = j + k + 2 := by omega
  rw [i1] at ht
  rw [i1, i2, i3, i4, i5]
  have v1 := val_take_succ v (k + 1)
  have v2 := val_take_succ v k
  rw [List.take_of_length_le (by omega)] at v1
  have v3 := val_nonneg (ov.take k)
  have v4 := val_lt (ov.take k)
  rw [List.length_take, Nat.min_eq_left (by omega)] at v4
  have ht1 := ov.at_ (k + 1)
  have hs1 := ov.at_ k
  have pj := P32_pos j
  have pk := P32_pos k
  have hvb := val_lt (ov.take (k + 1))
  rw [List.length_take, Nat.min_eq_left (by omega)] at hvb
  have e0 : P32 (j + 1) = 4294967296 * P32 j := P32_succ j
  have e1 : P32 (k + 1) = 4294967296 * P32 k := P32_succ k
  have e2 : P32 (j + k) = P32 j * P32 k := P32_add j k
  have e3 : P32 (j + k + 1) = 4294967296 * (P32 j * P32 k) := by rw [P32_succ, e2]
  have e4 : P32 (j + k + 2) = 4294967296 * (4294967296 * (P32 j * P32 k)) := by rw [show j + k + 2 = (j + k + 1) + 1 from rfl, P32_succ, e3]
  have e5 : P32 (j + k + 3) = 4294967296 * (4294967296 * (4294967296 * (P32 j * P32 k))) := by rw [show j + k + 3 = (j + k + 2) + 1 from rfl, P32_succ, e4]
  have pjk : 0 < P32 j * P32 k := Int.mul_pos pj pk
  have hvl : val v < P32 (k + 2) := by have := val_lt ov; rw [hv] at this; exact this
  have e6 : P32 (k + 2) = 4294967296 * (4294967296 * P32 k) := by rw [show k + 2 = (k + 1) + 1 from rfl, P32_succ, e1]
  have hub : val u < P32 (j + k + 3) := by
    have h1 : val v * P32 (j + 1) ≤ P32 (k + 2) * P32 (j + 1) := Int.mul_le_mul_of_nonneg_right (by omega) (by omega)
    have h2 : P32 (k + 2) * P32 (j + 1) = P32 (j + k + 3) := by rw [← P32_add]; congr 1; omega
    omega
  have hz := val_above (l := u) (K := j + k + 3) fun m hm => zero_above ou hub hm
  have u1 := val_take_succ u (j + k + 2)
  have u2 := val_take_succ u (j + k + 1)
  have u3 := val_take_succ u (j + k)
  have x0 := val_nonneg (ou.take (j + k))
  have x1 := val_lt (ou.take (j + k))
  have x2 := P32_mono (i := (u.take (j + k)).length) (j := j + k) (by rw [List.length_take]; omega)
  have uh0 := ou.at_ (j + k + 2)
  have um0 := ou.at_ (j + k + 1)
  have ul0 := ou.at_ (j + k)
  refine ⟨⟨P32 j * P32 k, val (v.take k) * P32 j, val (u.take (j + k)), pjk, ?_, Int.mul_nonneg v3 (by omega), ?_, ?_, x0, by omega⟩, ?_, um0, ul0, ⟨ht, ht1.2⟩, hs1⟩
  · rw [v1, v2, e1]; grind
  · have := Int.mul_lt_mul_of_pos_right v4 pj
    rw [Int.mul_comm (P32 k)] at this
    exact this
  · rw [hz, u1, u2, u3, e2, e3, e4]; grind
  · generalize u.getD (j + k + 2) 0 = uh at *
    generalize v.getD (k + 1) 0 = vt at *
    have h1 : uh * P32 (j + k + 2) ≤ val u := by
      have h3 := val_nonneg (ou.take (j + k + 2))
      rw [hz, u1, Int.mul_comm]; omega
    have h2 : val v * P32 (j + 1) < (vt + 1) * P32 (j + k + 2) := by
      have h4 : val v < (vt + 1) * P32 (k + 1) := by rw [v1, Int.add_mul, Int.mul_comm vt]; omega
      have h5 := Int.mul_lt_mul_of_pos_right h4 (P32_pos (j + 1))
      rw [Int.mul_assoc, ← P32_add, show k + 1 + (j + 1) = j + k + 2 by omega] at h5
      exact h5
    have h6 : uh * P32 (j + k + 2) < (vt + 1) * P32 (j + k + 2) := by omega
    have := Int.lt_of_mul_lt_mul_right h6 (by have := P32_pos (j + k + 2); omega)
    omega
section
variable {X Vj uh um ul vt vs g rest q : Int}
/-- the guess is too great -/
theorem Tops.down (h : Tops X Vj uh um ul vt vs) (hq : 0 ≤ q) (hqV : q * Vj ≤ X) (hqB : q < 4294967296) (hg : g * vt + rest = uh * 4294967296 + um) (hle : q ≤ g) (ht : 4294967296 ≤ g ∨ rest * 4294967296 + ul < g * vs) : q ≤ g - 1 := by
  rcases ht with ht | ht
  · omega
  · obtain ⟨D, vl, xl, hD, eV, v0, v1, eX, x0, x1⟩ := h.ex
    rw [eV, eX] at hqV
    have h1 := est_low hD hq v0 x1 hqV
    have h2 : q ≠ g := by
      rintro rfl
      grind
    omega
/-- the guess is at most one too great -/
theorem Tops.done (h : Tops X Vj uh um ul vt vs) (hg : g * vt + rest = uh * 4294967296 + um) (h0 : 0 ≤ g) (hB : g < 4294967296) (ht : g * vs ≤ rest * 4294967296 + ul) : (g - 1) * Vj ≤ X := by
  obtain ⟨D, vl, xl, hD, eV, v0, v1, eX, x0, x1⟩ := h.ex
  have hvt := h.hvt
  have hvs := h.hvs
  rw [eV, eX]
  exact est_high hD h0 hB v0 v1 x0 (by grind) (by omega)
theorem Tops.broke (h : Tops X Vj uh um ul vt vs) (hg : g * vt + rest = uh * 4294967296 + um) (h0 : 0 ≤ g) (hr : 4294967296 ≤ rest) : g < 4294967296 ∧ g * vs ≤ rest * 4294967296 + ul := by
  have hvt := h.hvt
  have hvs := h.hvs
  have hum := h.hum
  have huh := h.huh
  have hul := h.hul
  have h1 : g < 4294967296 := by
    have h2 : g * vt < 4294967296 * vt := by omega
    exact Int.lt_of_mul_lt_mul_right h2 (by omega)
  refine ⟨h1, ?_⟩
  have h3 := (mul_bound ⟨h0, h1⟩ hvs).2
  omega
end
/-- one word of the quotient -/
structure Dig (X Vj q : Int) : Prop where
  q0 : 0 ≤ q
  qB : q < 4294967296
  lo : q * Vj ≤ X
  hi : X < (q + 1) * Vj
theorem dig {X V : Int} {j : Nat} (hX : 0 ≤ X) (hV : 0 < V) (h : X < V * P32 (j + 1)) : Dig X (V * P32 j) (X / (V * P32 j)) := by
  have hp : 0 < V * P32 j := Int.mul_pos hV (P32_pos j)
  have e : V * P32 (j + 1) = V * P32 j * 4294967296 := by rw [P32_succ]; grind
  rw [e] at h
  have h1 := Int.emod_add_mul_ediv X (V * P32 j)
  have h2 := Int.emod_nonneg X (show V * P32 j ≠ 0 by omega)
  have h3 := Int.emod_lt_of_pos X hp
  have h4 : X / (V * P32 j) * (V * P32 j) = V * P32 j * (X / (V * P32 j)) := Int.mul_comm _ _
  refine ⟨Int.ediv_nonneg hX (by omega), Int.ediv_lt_of_lt_mul hp (by rw [Int.mul_comm]; exact h), by omega, ?_⟩
  rw [Int.add_mul]; omega
theorem Dig.is {X Vj q g : Int} (h : Dig X Vj q) (hV : 0 < Vj) (hle : q ≤ g) (hX : g * Vj ≤ X) : g = q := by
  have := h.hi
  have h1 : g * Vj < (q + 1) * Vj := by omega
  have := Int.lt_of_mul_lt_mul_right h1 (by omega)
  omega
theorem Dig.is1 {X Vj q g : Int} (h : Dig X Vj q) (hV : 0 < Vj) (_hle : q ≤ g) (hd : (g - 1) * Vj ≤ X) (hX : X < g * Vj) : g - 1 = q := by
  have h1 := h.lo
  have h2 : q * Vj < g * Vj := by omega
  have h3 := Int.lt_of_mul_lt_mul_right h2 (by omega)
  exact h.is hV (by omega) hd

/-- multiply and subtract: behind i words -/
structure KM (u v : List Int) (j : Nat) (g : Int) (i : Nat) (bo c : Int) (o : List Int) : Prop where
  len : o.length = u.length
  hb : -1 ≤ bo ∧ bo ≤ 0
  hc : 0 ≤ c ∧ c < 4294967296
  sum : val o + P32 (i + j) * (bo - c) = val u - P32 j * (g * val (v.take i))
  same : ∀ k, i + j ≤ k → o.getD k 0 = u.getD k 0
theorem KM.start (u v : List Int) (j : Nat) (g : Int) : KM u v j g 0 0 0 u := ⟨rfl, by omega, by omega, by simp [val], fun _ _ => rfl⟩
theorem KM.step {u v : List Int} {j : Nat} {g : Int} {i : Nat} {bo c : Int} {o : List Int} (h : KM u v j g i bo c o) (ov : Ok v) (oo : Ok o) (hg : 0 ≤ g ∧ g < 4294967296) (hj : i + j < u.length) {c' b' : Int} (hc' : c' = c + g * v.getD i 0) (hb' : b' = bo + (o.getD (i + j) 0 - c' % 4294967296)) :
    KM u v j g (i + 1) (b' / 4294967296) (c' / 4294967296) (o.set (i + j) (b' % 4294967296)) := by
  have h1 := ov.at_ i
  have h2 := oo.at_ (i + j)
  have h3 := h.hb
  have h4 := h.hc
  have h5 := mul_bound hg h1
  have hl := h.len
  refine ⟨by simpa using hl, by omega, by omega, ?_, ?_⟩
  · rw [val_set o (i + j) _ (by omega), val_take_succ, show i + 1 + j = (i + j) + 1 by omega, P32_succ]
    have h6 := h.sum
    have m1 := mul_split (P32 (i + j)) b'
    have m2 := mul_split (P32 (i + j)) c'
    have e1 : P32 (i + j) = P32 j * P32 i := by rw [Nat.add_comm, P32_add]
    have e2 : P32 (i + j) * b' = P32 (i + j) * bo + P32 (i + j) * o.getD (i + j) 0 - P32 (i + j) * (c' % 4294967296) := by rw [hb']; grind
    have e3 : P32 (i + j) * c' = P32 (i + j) * c + P32 j * (g * (P32 i * v.getD i 0)) := by rw [hc', e1]; grind
    have e4 : P32 j * (g * (val (v.take i) + P32 i * v.getD i 0)) = P32 j * (g * val (v.take i)) + P32 j * (g * (P32 i * v.getD i 0)) := by grind
    rw [e4]
    rw [Int.mul_sub] at h6 ⊢
    rw [Int.mul_sub]
    omega
  · intro k hk
    rw [getD_set_ne _ _ (by omega)]
    exact h.same k (by omega)
/-- .. and the last word -/
structure KL (u v : List Int) (j n : Nat) (g : Int) (b : Int) (o : List Int) : Prop where
  len : o.length = u.length
  hb : -4294967296 ≤ b ∧ b < 4294967296
  sum : val o + P32 (n + j + 1) * (b / 4294967296) = val u - g * (val v * P32 j)
  same : ∀ k, n + j < k → o.getD k 0 = u.getD k 0
theorem KM.last {u v : List Int} {j n : Nat} {g : Int} {bo c : Int} {o : List Int} (h : KM u v j g n bo c o) (hv : v.length = n) (oo : Ok o) (hj : n + j < u.length) {b : Int} (hb : b = bo + (o.getD (n + j) 0 - c)) :
    KL u v j n g b (o.set (n + j) (b % 4294967296)) := by
  have h2 := oo.at_ (n + j)
  have h3 := h.hb
  have h4 := h.hc
  have hl := h.len
  refine ⟨by simpa using hl, by omega, ?_, ?_⟩
  · rw [val_set o (n + j) _ (by omega), P32_succ]
    have h6 := h.sum
    rw [List.take_of_length_le (by omega)] at h6
    have m1 := mul_split (P32 (n + j)) b
    have e2 : P32 (n + j) * b = P32 (n + j) * bo + P32 (n + j) * o.getD (n + j) 0 - P32 (n + j) * c := by rw [hb]; grind
    have e3 : P32 j * (g * val v) = g * (val v * P32 j) := by grind
    rw [e3, Int.mul_sub] at h6
    rw [Int.mul_sub]
    omega
  · intro k hk
    rw [getD_set_ne _ _ (by omega)]
    exact h.same k (by omega)
section
variable {u v : List Int} {j n : Nat} {g b q : Int} {o : List Int}
/-- the guess was right -/
theorem KL.right (h : KL u v j n g b o) (oo : Ok o) (hV : 0 < val v) (hd : Dig (val u) (val v * P32 j) q) (hle : q ≤ g) (hb : 0 ≤ b) : g = q ∧ val o = val u - q * (val v * P32 j) := by
  have h1 := h.hb
  have h2 := h.sum
  have e : b / 4294967296 = 0 := by omega
  rw [e] at h2
  have h3 := val_nonneg oo
  have h4 := hd.is (Int.mul_pos hV (P32_pos j)) hle (by omega)
  subst h4
  exact ⟨rfl, by omega⟩
/-- the guess was one too great -/
theorem KL.wrong (h : KL u v j n g b o) (ou : ∀ k, n + j < k → u.getD k 0 = 0) (oo : Ok o) (hV : 0 < val v) (hd : Dig (val u) (val v * P32 j) q) (hle : q ≤ g) (h1 : (g - 1) * (val v * P32 j) ≤ val u) (hb : b < 0) : g - 1 = q ∧ val o + val v * P32 j - P32 (n + j + 1) = val u - q * (val v * P32 j) := by
  have h0 := h.hb
  have h2 := h.sum
  have e : b / 4294967296 = -1 := by omega
  rw [e] at h2
  have h3 := val_lt_above oo (K := n + j + 1) fun k hk => by rw [h.same k (by omega)]; exact ou k (by omega)
  have h4 := hd.is1 (Int.mul_pos hV (P32_pos j)) hle h1 (by omega)
  refine ⟨h4, ?_⟩
  rw [← h4, Int.sub_mul]
  omega
end
/-- add back: behind i words -/
structure KA (o1 v : List Int) (j : Nat) (i : Nat) (c : Int) (o : List Int) : Prop where
  len : o.length = o1.length
  hc : 0 ≤ c ∧ c ≤ 1
  sum : val o + P32 (i + j) * c = val o1 + P32 j * val (v.take i)
  same : ∀ k, i + j ≤ k → o.getD k 0 = o1.getD k 0
theorem KA.start (o1 v : List Int) (j : Nat) : KA o1 v j 0 0 o1 := ⟨rfl, by omega, by simp [val], fun _ _ => rfl⟩
theorem KA.step {o1 v : List Int} {j i : Nat} {c : Int} {o : List Int} (h : KA o1 v j i c o) (ov : Ok v) (oo : Ok o) (hj : i + j < o1.length) {c' : Int} (hc' : c' = c + (o.getD (i + j) 0 + v.getD i 0)) :
    KA o1 v j (i + 1) (c' / 4294967296) (o.set (i + j) (c' % 4294967296)) := by
  have h1 := ov.at_ i
  have h2 := oo.at_ (i + j)
  have h4 := h.hc
  have hl := h.len
  refine ⟨by simpa using hl, by omega, ?_, ?_⟩
  · rw [val_set o (i + j) _ (by omega), val_take_succ, show i + 1 + j = (i + j) + 1 by omega, P32_succ]
    have h6 := h.sum
    have m1 := mul_split (P32 (i + j)) c'
    have e1 : P32 (i + j) = P32 j * P32 i := by rw [Nat.add_comm, P32_add]
    have e2 : P32 (i + j) * c' = P32 (i + j) * c + P32 (i + j) * o.getD (i + j) 0 + P32 j * (P32 i * v.getD i 0) := by rw [hc', e1]; grind
    rw [Int.mul_add, Int.mul_sub]
    omega
  · intro k hk
    rw [getD_set_ne _ _ (by omega)]
    exact h.same k (by omega)
theorem KA.last {o1 v : List Int} {j n : Nat} {c R : Int} {o : List Int} (h : KA o1 v j n c o) (hv : v.length = n) (oo : Ok o) (hj : n + j < o1.length) (hz : ∀ k, n + j < k → o1.getD k 0 = 0) (hR : val o1 + val v * P32 j - P32 (n + j + 1) = R) (h0 : 0 ≤ R) :
    val (o.set (n + j) ((o.getD (n + j) 0 + c) % 4294967296)) = R := by
  have h2 := oo.at_ (n + j)
  have h4 := h.hc
  have hl := h.len
  have h6 := h.sum
  rw [List.take_of_length_le (by omega)] at h6
  have ho : Ok (o.set (n + j) ((o.getD (n + j) 0 + c) % 4294967296)) := oo.set _ (by omega)
  have hlt := val_lt_above ho (K := n + j + 1) fun k hk => by rw [getD_set_ne _ _ (by omega), h.same k (by omega)]; exact hz k (by omega)
  have hv2 := val_set o (n + j) ((o.getD (n + j) 0 + c) % 4294967296) (by omega)
  rw [Int.mul_sub] at hv2
  have m1 := mul_split (P32 (n + j)) (o.getD (n + j) 0 + c)
  rw [Int.mul_add (P32 (n + j)) (o.getD (n + j) 0) c, ← P32_succ] at m1
  have e3 : P32 j * val v = val v * P32 j := Int.mul_comm _ _
  have hq : (o.getD (n + j) 0 + c) / 4294967296 = 0 ∨ (o.getD (n + j) 0 + c) / 4294967296 = 1 := by omega
  rcases hq with hq | hq
  · rw [hq] at m1; omega
  · rw [hq] at m1; omega
/-- the state between two words of the quotient -/
structure KO (S V : Int) (r : Nat) (u q : List Int) : Prop where
  eq : val u + V * (P32 r * val (q.drop r)) = S
  lt : val u < V * P32 r
theorem KO.next {S V : Int} {j : Nat} {u u2 q : List Int} (h : KO S V (j + 1) u q) (hj : j < q.length) {d : Int} (hd : Dig (val u) (V * P32 j) d) (e : val u2 = val u - d * (V * P32 j)) : KO S V j u2 (q.set j d) := by
  have e2 : (q.set j d).drop j = d :: q.drop (j + 1) := by
    rw [List.drop_eq_getElem_cons (by simp; omega)]
    simp [List.drop_set_of_lt]
  refine ⟨?_, ?_⟩
  · rw [e2, val, e, ← h.eq, P32_succ]; grind
  · have := hd.hi
    rw [Int.add_mul] at this
    omega
theorem KO.start {a b : List Int} (oa : Ok a) (_hb : 0 < val b) {s la n : Nat} (hla : a.length = la) (hlow : P32 (n - 1) ≤ val b) (hn : 1 ≤ n) (hle : n ≤ la) {u : List Int} (hu : val u = val a * 2 ^ s) :
    KO (val a * 2 ^ s) (val b * 2 ^ s) (la - n + 1) u (List.replicate (la - n + 1) 0) := by
  have h2 : (0 : Int) < 2 ^ s := by have := Nat.two_pow_pos s; exact_mod_cast this
  refine ⟨?_, ?_⟩
  · rw [List.drop_of_length_le (by simp), hu]; simp [val]
  · rw [hu]
    have h1 := val_lt oa
    rw [hla] at h1
    have h3 : P32 la = P32 (n - 1) * P32 (la - n + 1) := by rw [← P32_add]; congr 1; omega
    have h4 : P32 (n - 1) * P32 (la - n + 1) ≤ val b * P32 (la - n + 1) := Int.mul_le_mul_of_nonneg_right hlow (by have := P32_pos (la - n + 1); omega)
    have h5 : val a < val b * P32 (la - n + 1) := by omega
    have h6 := Int.mul_lt_mul_of_pos_right h5 h2
    have e : val b * 2 ^ s * P32 (la - n + 1) = val b * P32 (la - n + 1) * 2 ^ s := by grind
    rw [e]; exact h6
/-- the end: quotient and remainder -/
theorem KO.fin {a b : Int} {s : Nat} {u q : List Int} (h : KO (a * 2 ^ s) (b * 2 ^ s) 0 u q) (ou : Ok u) (hb : 0 < b) : val q = a / b ∧ val u / 2 ^ s = a % b := by
  have h2 : (0 : Int) < 2 ^ s := by have := Nat.two_pow_pos s; exact_mod_cast this
  have h1 := h.eq
  have h3 := h.lt
  rw [P32_zero, Int.mul_one] at h3
  rw [P32_zero, Int.one_mul, List.drop_zero] at h1
  have h0 := val_nonneg ou
  generalize val u = U at *
  generalize val q = Q at *
  generalize (2 : Int) ^ s = t at *
  have e : U = (a - b * Q) * t := by grind
  have r0 : 0 ≤ a - b * Q := by
    rcases (show a - b * Q < 0 ∨ 0 ≤ a - b * Q by omega) with hl | hl
    · have := Int.mul_neg_of_neg_of_pos hl h2; omega
    · exact hl
  have r1 : a - b * Q < b := by
    rw [e] at h3
    exact Int.lt_of_mul_lt_mul_right h3 (by omega)
  have q1 : a / b = Q := by
    rw [show a = (a - b * Q) + b * Q by omega, Int.add_mul_ediv_left _ _ (by omega), Int.ediv_eq_zero_of_lt r0 r1]; omega
  refine ⟨q1.symm, ?_⟩
  rw [e, Int.mul_ediv_cancel _ (by omega)]
  have := Int.emod_add_mul_ediv a b
  rw [q1] at this
  omega
/-- the words of the remainder -/
theorem rem_word {u : List Int} (ou : Ok u) {s : Nat} (hs : s ≤ 31) (i : Nat) : (val u / 2 ^ s) % P32 (i + 1) = (val u / 2 ^ s) % P32 i + P32 i * (((u.getD (i + 1) 0 * 4294967296 + u.getD i 0) / 2 ^ s) % 4294967296) := by
  have h2 : (0 : Int) < 2 ^ s := by have := Nat.two_pow_pos s; exact_mod_cast this
  have hp := P32_pos i
  have e1 : (val u / 2 ^ s) % P32 (i + 1) = (val u / 2 ^ s) % P32 i + P32 i * (val u / 2 ^ s / P32 i % 4294967296) := by
    rw [P32_succ, Int.mul_comm 4294967296]
    generalize val u / 2 ^ s = x
    generalize P32 i = p at *
    have a1 := Int.emod_add_mul_ediv x (p * 4294967296)
    have a2 := Int.emod_add_mul_ediv x p
    have a3 := Int.emod_add_mul_ediv (x / p) 4294967296
    have a4 : x / p / 4294967296 = x / (p * 4294967296) := Int.ediv_ediv_of_nonneg (by omega)
    rw [a4] at a3
    have a5 : p * (x / p) = p * (x / p % 4294967296) + p * 4294967296 * (x / (p * 4294967296)) := by
      have : p * (x / p) = p * (x / p % 4294967296 + 4294967296 * (x / (p * 4294967296))) := by rw [a3]
      rw [this]; grind
    omega
  rw [e1]
  congr 2
  have e2 : val u / 2 ^ s / P32 i = val u / P32 i / 2 ^ s := by
    rw [Int.ediv_ediv_of_nonneg (by omega), Int.ediv_ediv_of_nonneg (by omega), Int.mul_comm]
  have e3 : val u / P32 i = val (u.drop i) := by
    have h1 := val_take_drop u i
    have h3 := val_nonneg (ou.take i)
    have h4 := val_lt (ou.take i)
    have h5 := P32_mono (i := (u.take i).length) (j := i) (by rw [List.length_take]; omega)
    rw [h1, Int.add_mul_ediv_left _ _ (by omega), Int.ediv_eq_zero_of_lt h3 (by omega)]; omega
  have e4 : val (u.drop i) = u.getD i 0 + 4294967296 * (u.getD (i + 1) 0 + 4294967296 * val (u.drop (i + 2))) := by
    have d : ∀ k, val (u.drop k) = u.getD k 0 + 4294967296 * val (u.drop (k + 1)) := by
      intro k
      by_cases hk : k < u.length
      · rw [List.drop_eq_getElem_cons hk, val, List.getD_eq_getElem?_getD, List.getElem?_eq_getElem hk]; rfl
      · rw [List.drop_of_length_le (by omega), List.drop_of_length_le (by omega), List.getD_eq_getElem?_getD, List.getElem?_eq_none (by omega)]; rfl
    rw [d i, d (i + 1)]
  rw [e2, e3, e4]
  generalize val (u.drop (i + 2)) = z
  have e5 : u.getD i 0 + 4294967296 * (u.getD (i + 1) 0 + 4294967296 * z) = (u.getD (i + 1) 0 * 4294967296 + u.getD i 0) + 2 ^ s * (4294967296 * (2 ^ (32 - s) * z)) := by
    have : (4294967296 : Int) = 2 ^ s * 2 ^ (32 - s) := by rw [← Int.pow_add, show s + (32 - s) = 32 by omega]; rfl
    have e6 : (2 : Int) ^ s * (4294967296 * (2 ^ (32 - s) * z)) = 4294967296 * (2 ^ s * 2 ^ (32 - s) * z) := by grind
    rw [e6, ← this]; omega
  rw [e5, Int.add_mul_ediv_left _ _ (by omega), Int.add_mul_emod_self_left]
structure KR (u : List Int) (s i : Nat) (r : List Int) : Prop where
  sum : val (r.take i) = (val u / 2 ^ s) % P32 i
theorem KR.step {u : List Int} {s i : Nat} {r : List Int} (h : KR u s i r) (ou : Ok u) (hs : s ≤ 31) (hi : i < r.length) {x : Int} (hx : x = ((u.getD (i + 1) 0 * 4294967296 + u.getD i 0) / 2 ^ s) % 4294967296) : KR u s (i + 1) (r.set i x) := by
  refine ⟨?_⟩
  rw [val_set_take r i _ hi, rem_word ou hs, h.sum, hx]
end Go.Proofs.YtpbdlmjfjkfphaaGreatDoor
