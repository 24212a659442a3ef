/- math/bits.Len32, LeadingZeros32; what the shift by the leading zeros makes of a divisor. What large.divWords keeps in memory and returns. -/
import Derived.Test.YtcgfdfdcbamceaaGreatDoorXAH
import Derived.Lib.Strings
import Derived.Lib.Slices
import Derived.Lib.Small
import Derived.Lib.Walk
import Derived.Lib.BitFns
import Derived.Deep.DeepCutAuto
import Derived.Deep.CutBlock
import Derived.Deep.RegionWith
import Derived.BigRegion
namespace Go.Proofs.YtcgfdfdcbamceaaGreatDoor
open Go.RowKit
set_option maxHeartbeats 4000000 in
set_option maxRecDepth 100000 in
theorem len32_any (x : Int) (w : World) (h0 : 0 ≤ x) (h1 : x < 4294967296) : Calls Tryz.prog 144 #[U x] w fun e w' => e = .returned (I (Lib.bitLen x.toNat)) ∧ w' = w := by
 by_cases h2 : 65536 ≤ x
 ·by_cases h3 : 256 ≤ x / 65536
  ·have a0 : 0 ≤ x / 65536 / 256 := by omega
   have a1 : x / 65536 / 256 ≤ 255 := by omega
   go_enter Tryz.func144, Tryz.ntmps144
   go_wp2
   go_ret
   refine ⟨ret_int ?_, rfl⟩
   have e : (x / 65536 / 256).toNat = x.toNat / 16777216 := by omega
   have l := Lib.bitLen_le8' (x / 65536 / 256) a0 a1
   have s := Lib.bitLen_shift24 x.toNat (by omega) (by omega)
   rw [Lib.len8_of _ a0 a1] at *
   rw [e] at l ⊢
   unfold wrap64
   omega
  ·have a0 : 0 ≤ x / 65536 := by omega
   have a1 : x / 65536 ≤ 255 := by omega
   go_enter Tryz.func144, Tryz.ntmps144
   go_wp2
   go_ret
   refine ⟨ret_int ?_, rfl⟩
   have e : (x / 65536).toNat = x.toNat / 65536 := by omega
   have l := Lib.bitLen_le8' (x / 65536) a0 a1
   have s := Lib.bitLen_shift16 x.toNat (by omega) (by omega)
   rw [Lib.len8_of _ a0 a1] at *
   rw [e] at l ⊢
   unfold wrap64
   omega
 ·by_cases h3 : 256 ≤ x
  ·have a0 : 0 ≤ x / 256 := by omega
   have a1 : x / 256 ≤ 255 := by omega
   go_enter Tryz.func144, Tryz.ntmps144
   go_wp2
   go_ret
   refine ⟨ret_int ?_, rfl⟩
   have e : (x / 256).toNat = x.toNat / 256 := by omega
   have l := Lib.bitLen_le8' (x / 256) a0 a1
   have s := Lib.bitLen_shift8 x.toNat (by omega) (by omega)
   rw [Lib.len8_of _ a0 a1] at *
   rw [e] at l ⊢
   unfold wrap64
   omega
  ·have a1 : x ≤ 255 := by omega
   go_enter Tryz.func144, Tryz.ntmps144
   go_wp2
   go_ret
   refine ⟨ret_int ?_, rfl⟩
   have l := Lib.bitLen_le8' x h0 a1
   rw [Lib.len8_of _ h0 a1] at *
   unfold wrap64
   omega
theorem bitLen_bounds : ∀ (k : Nat), k ≤ 64 → ∀ x : Nat, x < 2 ^ k → x < 2 ^ Lib.bitLen x ∧ (x ≠ 0 → 2 ^ Lib.bitLen x ≤ 2 * x)
 | 0, _, x, h => by
  have : x = 0 := by simpa using h
  subst this
  decide
 | k + 1, hk, x, h => by
  by_cases h0 : x = 0
  ·subst h0; decide
  ·have h64 : x < 2 ^ 64 := Nat.lt_of_lt_of_le h (Nat.pow_le_pow_right (by decide) hk)
   have e := Lib.bitLen_half x h0 h64
   obtain ⟨i1, i2⟩ := bitLen_bounds k (by omega) (x / 2) (by rw [Nat.pow_succ] at h; omega)
   rw [e, Nat.add_comm, Nat.pow_succ]
   refine ⟨by omega, fun _ => ?_⟩
   by_cases h1 : x / 2 = 0
   ·rw [h1]
    have : Lib.bitLen 0 = 0 := by decide
    rw [this]; omega
   ·have := i2 h1
    omega
set_option maxRecDepth 100000 in
theorem lz_any (x : Int) (w : World) (h0 : 1 ≤ x) (h1 : x < 4294967296) : Calls Tryz.prog 129 #[U x] w fun e w' => ∃ s : Nat, e = .returned (I s) ∧ s ≤ 31 ∧ 2147483648 ≤ x * 2 ^ s ∧ x * 2 ^ s < 4294967296 ∧ w' = w := by
 have HC := Lib.hid (len32_any x w (by omega) h1)
 have hb := bitLen_bounds 32 (by decide) x.toNat (by omega)
 have hle := Lib.bitLen_le x.toNat 32 (by decide) (by omega)
 have h2 := hb.2 (by omega)
 have hge : 1 ≤ Lib.bitLen x.toNat := by
  rcases Nat.eq_zero_or_pos (Lib.bitLen x.toNat) with e | e
  ·rw [e] at hb; have := hb.1; omega
  ·exact e
 have H1 : Hid (2147483648 ≤ x * 2 ^ (32 - Lib.bitLen x.toNat) ∧ x * 2 ^ (32 - Lib.bitLen x.toNat) < 4294967296) := Lib.hid (by
  have hb1 := hb.1
  generalize Lib.bitLen x.toNat = k at *
  obtain ⟨n, rfl⟩ := Int.eq_ofNat_of_zero_le (show 0 ≤ x by omega)
  simp only [Int.toNat_natCast] at *
  have e : 2 ^ k * 2 ^ (32 - k) = 4294967296 := by rw [← Nat.pow_add, show k + (32 - k) = 32 by omega]
  have hp : 0 < 2 ^ (32 - k) := Nat.two_pow_pos _
  have a1 := Nat.mul_lt_mul_of_pos_right hb1 hp
  have a2 := Nat.mul_le_mul_right (2 ^ (32 - k)) h2
  rw [e] at a1 a2
  rw [Nat.mul_assoc] at a2
  have c : ((n * 2 ^ (32 - k) : Nat) : Int) = (n : Int) * 2 ^ (32 - k) := by simp
  rw [← c]
  omega)
 clear hb h2
 go_enter Tryz.func129, Tryz.ntmps129
 go_wp2_with fail
 refine HC.out.mono ?_
 rintro e w1 ⟨rfl, rfl⟩
 clear HC
 go_wp2
 go_ret
 exact ⟨32 - Lib.bitLen x.toNat, ret_int (by omega), by omega, H1.out.1, H1.out.2, rfl⟩
theorem norm_div {b o : List Int} (ob : Ok b) {k s : Nat} (hb : b.length = k + 1) (hs : s ≤ 31) (h1 : 2147483648 ≤ b.getD k 0 * 2 ^ s) (h2 : b.getD k 0 * 2 ^ s < 4294967296) (oo : Ok o) (lo : o.length = k + 2) (hv : val o = val b * 2 ^ s) :
  ∃ v, o = v ++ [0] ∧ v.length = k + 1 ∧ Ok v ∧ val v = val b * 2 ^ s ∧ 2147483648 ≤ v.getD k 0 := by
 have hp : (0 : Int) < 2 ^ s := by have := Nat.two_pow_pos s; exact_mod_cast this
 have b1 := val_take_succ b k
 rw [List.take_of_length_le (by omega)] at b1
 have b2 := val_nonneg (ob.take k)
 have b3 := val_lt (ob.take k)
 rw [List.length_take, Nat.min_eq_left (by omega)] at b3
 have pk := P32_pos k
 have e32 : (4294967296 : Int) = 2 ^ s * 2 ^ (32 - s) := by rw [← Int.pow_add, show s + (32 - s) = 32 by omega]; rfl
 have hlt : val b * 2 ^ s < P32 (k + 1) := by
  generalize b.getD k 0 = bt at *
  have a1 : bt + 1 ≤ 2 ^ (32 - s) := by
   have : bt * 2 ^ s < 2 ^ (32 - s) * 2 ^ s := by rw [Int.mul_comm (2 ^ (32 - s)), ← e32]; exact h2
   have := Int.lt_of_mul_lt_mul_right this (by omega)
   omega
  have a2 : (bt + 1) * 2 ^ s ≤ 4294967296 := by
   have := Int.mul_le_mul_of_nonneg_right a1 (show (0 : Int) ≤ 2 ^ s by omega)
   rw [Int.mul_comm (2 ^ (32 - s)), ← e32] at this
   exact this
  have a3 : val b < P32 k * (bt + 1) := by rw [b1]; grind
  have a4 := Int.mul_lt_mul_of_pos_right a3 hp
  have a5 : P32 k * (bt + 1) * 2 ^ s ≤ P32 k * 4294967296 := by
   rw [Int.mul_assoc]
   exact Int.mul_le_mul_of_nonneg_left a2 (by omega)
  rw [P32_succ]
  omega
 have hz := zero_above oo (K := k + 1) (by rw [hv]; exact hlt) (k := k + 1) (Nat.le_refl _)
 have e1 := take_succ_getD o (k + 1) (by omega)
 rw [List.take_of_length_le (by omega), hz] at e1
 have hvv : val (o.take (k + 1)) = val b * 2 ^ s := by
  have := val_take_succ o (k + 1)
  rw [List.take_of_length_le (by omega), hz] at this
  omega
 have hlen : (o.take (k + 1)).length = k + 1 := by rw [List.length_take]; omega
 refine ⟨o.take (k + 1), e1, hlen, oo.take _, hvv, ?_⟩
 have v1 := val_take_succ (o.take (k + 1)) k
 rw [List.take_of_length_le (l := o.take (k + 1)) (by omega)] at v1
 have v3 := val_lt ((oo.take (k + 1)).take k)
 rw [List.length_take, hlen, Nat.min_eq_left (by omega)] at v3
 generalize (o.take (k + 1)).getD k 0 = vt at *
 generalize b.getD k 0 = bt at *
 have c1 : P32 k * 2147483648 ≤ P32 k * (bt * 2 ^ s) := Int.mul_le_mul_of_nonneg_left h1 (by omega)
 have c2 : P32 k * (bt * 2 ^ s) ≤ val b * 2 ^ s := by
  rw [b1, Int.add_mul, Int.mul_assoc]
  have := Int.mul_nonneg b2 (show (0 : Int) ≤ 2 ^ s by omega)
  omega
 have c3 : P32 k * 2147483648 < P32 k * (vt + 1) := by rw [Int.mul_add]; omega
 have := Int.lt_of_mul_lt_mul_left c3 (by omega)
 omega
section
variable {w w1 : World} {g n : Nat} {o : List Int} {wr w2 : World}
theorem Wrd.far (h : Wrd w g n o wr) {p : Addr} (hp : g ≠ p.block) (hb : w.heap.size ≤ p.block) (u : Value) : Wrd w g n o (wr.setCell p u) := ⟨h.len, h.ok, h.blk.far hp u, h.below.setCell hb u⟩
theorem Wrd.base (h : Wrd w1 g n o wr) (hb : Below w.heap.size w w1) : Wrd w g n o wr := ⟨h.len, h.ok, h.blk, hb.trans (h.below.mono hb.size)⟩
theorem Wrd.ext (h : Wrd w g n o wr) (hb : Below wr.heap.size wr w2) : Wrd w g n o w2 := ⟨h.len, h.ok, h.blk.below hb h.blk.lt, h.below.trans (hb.mono h.below.size)⟩
end
theorem Wrd.drew {w : World} {g n : Nat} {o : List Int} {wr : World} (h : Wrd w g n o wr) : Wrd w g n o wr.drew := ⟨h.len, h.ok, h.blk, below_drewN h.below 1⟩
structure M3 (w : World) (gu gv gq la n : Nat) (v u q : List Int) (wr : World) : Prop where
 mu : Wrd w gu (la + 1) u wr
 mv : Blk wr gv 139 ((v ++ [0]).map U).toArray
 mq : Wrd w gq (la - n + 1) q wr
 lv : v.length = n
structure Apart (w : World) (gu gv gq : Nat) : Prop where
 hu : w.heap.size ≤ gu
 hv : w.heap.size ≤ gv
 hq : w.heap.size ≤ gq
 uv : gu ≠ gv
 uq : gu ≠ gq
 vq : gv ≠ gq
section
variable {w wr : World} {gu gv gq la n : Nat} {v u q : List Int}
theorem M3.setU (h : M3 w gu gv gq la n v u q wr) (ha : Apart w gu gv gq) (i : Nat) {x : Int} (hx : 0 ≤ x ∧ x < 4294967296) : M3 w gu gv gq la n v (u.set i x) q (wr.setCell ⟨gu, i, none⟩ (U x)) :=
 ⟨h.mu.set i hx ha.hu, h.mv.far (fun e => ha.uv e.symm) _, h.mq.far (fun e => ha.uq e.symm) ha.hu _, h.lv⟩
theorem M3.setQ (h : M3 w gu gv gq la n v u q wr) (ha : Apart w gu gv gq) (i : Nat) {x : Int} (hx : 0 ≤ x ∧ x < 4294967296) : M3 w gu gv gq la n v u (q.set i x) (wr.setCell ⟨gq, i, none⟩ (U x)) :=
 ⟨h.mu.far ha.uq ha.hq _, h.mv.far ha.vq _, h.mq.set i hx ha.hq, h.lv⟩
theorem M3.cv (h : M3 w gu gv gq la n v u q wr) {i : Nat} (hi : i < n) : wr.cell? ⟨gv, i, none⟩ = some (U (v.getD i 0)) := by
 have := h.lv
 rw [h.mv.cell]
 simp [List.getElem?_append, this, hi]
end
theorem M3.drewN {w wr : World} {gu gv gq la n : Nat} {v u q : List Int} (h : M3 w gu gv gq la n v u q wr) (k : Nat) : M3 w gu gv gq la n v u q (wr.drewN k) :=
 ⟨⟨h.mu.len, h.mu.ok, h.mu.blk, below_drewN h.mu.below k⟩, h.mv, ⟨h.mq.len, h.mq.ok, h.mq.blk, below_drewN h.mq.below k⟩, h.lv⟩
structure GI (uh um vt dq g rest : Int) : Prop where
 g0 : 0 ≤ g
 g1 : g ≤ 4294967297
 r0 : 0 ≤ rest
 r1 : rest < 4294967296
 eq : g * vt + rest = uh * 4294967296 + um
 le : dq ≤ g
section
variable {X Vj uh um ul vt vs q : Int}
theorem Tops.first (h : Tops X Vj uh um ul vt vs) (h0 : 0 ≤ uh) (hd : Dig X Vj q) : GI uh um vt q ((uh * 4294967296 + um) / vt) ((uh * 4294967296 + um) % vt) := by
 obtain ⟨D, vl, xl, hD, eV, v0, v1, eX, x0, x1⟩ := h.ex
 obtain ⟨m0, m1⟩ := h.hum
 obtain ⟨l0, l1⟩ := h.hul
 obtain ⟨t0, t1⟩ := h.hvt
 obtain ⟨s0, s1⟩ := h.hvs
 have hh := h.huh
 have e := Int.emod_add_mul_ediv (uh * 4294967296 + um) vt
 have e0 := Int.emod_nonneg (uh * 4294967296 + um) (show vt ≠ 0 by omega)
 have e1 := Int.emod_lt_of_pos (uh * 4294967296 + um) (show 0 < vt by omega)
 have lo := hd.lo
 rw [eV, eX] at lo
 have h1 := est_low hD hd.q0 v0 x1 lo
 have h2 : 0 ≤ q * vs := Int.mul_nonneg hd.q0 s0
 have h3 : q * vt ≤ uh * 4294967296 + um := by
  have : q * (vt * 4294967296 + vs) = q * vt * 4294967296 + q * vs := by grind
  omega
 have hb : (uh * 4294967296 + um) / vt < 4294967298 := Int.ediv_lt_of_lt_mul (by omega) (by omega)
 refine ⟨Int.ediv_nonneg (by omega) (by omega), by omega, e0, by omega, by rw [Int.mul_comm]; omega, (Int.le_ediv_iff_mul_le (by omega)).2 h3⟩
end
def CutG (wa : World) (X Vj dq : Int) (gv : Value) (wx : World) : Prop := ∃ (g : Int) (q : Nat), gv = .int .u64 g ∧ wx = wa.drewN q ∧ (0 ≤ g ∧ g < 4294967296) ∧ dq ≤ g ∧ (g - 1) * Vj ≤ X
theorem CutG.any {wa : World} {X Vj dq : Int} {gv : Value} {k : Nat} (h : CutG wa X Vj dq gv (wa.drewN k)) (m : Nat) : CutG wa X Vj dq gv (wa.drewN m) := by
 obtain ⟨g, q, h1, _, h2⟩ := h
 exact ⟨g, _, h1, rfl, h2⟩
theorem top_zero {u v : List Int} {j n : Nat} (ou : Ok u) (ov : Ok v) (lv : v.length = n) (h : val u < val v * P32 (j + 1)) : ∀ k, n + j < k → u.getD k 0 = 0 := by
 intro k hk
 refine zero_above ou (K := n + (j + 1)) ?_ (by omega)
 have h1 := val_lt ov
 rw [lv] at h1
 have h2 : val v * P32 (j + 1) ≤ P32 n * P32 (j + 1) := Int.mul_le_mul_of_nonneg_right (by omega) (by have := P32_pos (j + 1); omega)
 rw [← P32_add] at h2
 omega
theorem and_low {c : Int} (h0 : 0 ≤ c) (h1 : c < 18446744073709551616) : bits BinOp.and IntKind.u64 c 4294967295 = c % 4294967296 := by
 rw [u64_and _ _ h0 h1 (by omega) (by omega)]
 have e : (4294967295 : Int).toNat = 2 ^ 32 - 1 := by decide
 rw [e, Nat.and_two_pow_sub_one_eq_mod]
 omega
def RetDiv (w : World) (a b : Int) (e : Ending) (w' : World) : Prop :=
 ∃ Aq cq Ar cr q r, e = .returned (.tuple #[.slice Aq (q : List Int).length cq, .slice Ar (r : List Int).length cr]) ∧ Reads w' w'.heap.size 1 Aq q.length (q.map U) ∧ Reads w' w'.heap.size 1 Ar r.length (r.map U) ∧ Ok q ∧ Ok r ∧ val q = a / b ∧ val r = a % b ∧ (q.length ≤ 1000000000 ∧ r.length ≤ 1000000000) ∧ Below w.heap.size w w'
theorem ret_div {A B : Option Addr} {n m : Nat} {q r : List Int} (h1 : q.length = n) (h2 : r.length = m) : Ending.returned (.tuple #[.slice A n n, .slice B m m]) = .returned (.tuple #[.slice A q.length n, .slice B r.length m]) := by rw [h1, h2]
def Two (w : World) (a b : List Int) (s : Nat) (uv vv : Value) (wx : World) : Prop :=
 ∃ gu gv u v, uv = .slice (some ⟨gu, 0, none⟩) (a.length + 1) (a.length + 1) ∧ vv = .slice (some ⟨gv, 0, none⟩) b.length (b.length + 1) ∧ gu ≠ gv ∧ w.heap.size ≤ gu ∧ w.heap.size ≤ gv ∧ Wrd w gu (a.length + 1) u wx ∧ Blk wx gv 139 (((v ++ [0] : List Int)).map U).toArray ∧ v.length = b.length ∧ Ok v ∧ val v = val b * 2 ^ s ∧ 2147483648 ≤ v.getD (b.length - 1) 0 ∧ val u = val a * 2 ^ s
theorem two_of {w wx : World} {a b u o : List Int} {s gu gv : Nat} (ob : Ok b) (hb2 : 2 ≤ b.length) (hs : s ≤ 31) (h1 : 2147483648 ≤ b.getD (b.length - 1) 0 * 2 ^ s) (h2 : b.getD (b.length - 1) 0 * 2 ^ s < 4294967296) (hne : gu ≠ gv) (hgv : w.heap.size ≤ gv) (hgu : w.heap.size ≤ gu)
  (hu : Wrd w gu (a.length + 1) u wx) (hv : Wrd w gv (b.length + 1) o wx) (eu : val u = val a * 2 ^ s) (ev : val o = val b * 2 ^ s) : Two w a b s (.slice (some ⟨gu, 0, none⟩) (a.length + 1) (a.length + 1)) (.slice (some ⟨gv, 0, none⟩) b.length (b.length + 1)) wx := by
 obtain ⟨v, rfl, lv, ov, evv, htop⟩ := norm_div (k := b.length - 1) ob (by omega) hs h1 h2 hv.ok (by rw [hv.len]; omega) ev
 exact ⟨gu, gv, u, v, rfl, rfl, hne, hgu, hgv, hu, hv.blk, by omega, ov, evv, htop, eu⟩
end Go.Proofs.YtcgfdfdcbamceaaGreatDoor
