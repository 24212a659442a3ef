/- What large.divWords keeps in memory and returns. -/
import Derived.Test.YtpbdlmjfjkfphaaGreatDoorLz
import Derived.Deep.DeepCutAuto
import Derived.Deep.CutBlock
import Derived.Deep.RegionWith
import Derived.BigRegion
namespace Go.Proofs.YtpbdlmjfjkfphaaGreatDoor
open Go.RowKit

section
variable {w w1 : World} {g n : Nat} {o : List Int} {wr w2 : World}
theorem Wrd.far (h : Wrd w g n o wr) {p : Addr} (hp : g ≠ p.block) (hb : w.heap.size ≤ p.block) (u : Value) : Wrd w g n o (wr.setCell p u) := ⟨h.len, h.ok, h.blk.far hp u, h.below.setCell hb u⟩
theorem Wrd.base (h : Wrd w1 g n o wr) (hb : Below w.heap.size w w1) : Wrd w g n o wr := ⟨h.len, h.ok, h.blk, hb.trans (h.below.mono hb.size)⟩
theorem Wrd.ext (h : Wrd w g n o wr) (hb : Below wr.heap.size wr w2) : Wrd w g n o w2 := ⟨h.len, h.ok, h.blk.below hb h.blk.lt, h.below.trans (hb.mono h.below.size)⟩
end
theorem Wrd.drew {w : World} {g n : Nat} {o : List Int} {wr : World} (h : Wrd w g n o wr) : Wrd w g n o wr.drew := ⟨h.len, h.ok, h.blk, below_drewN h.below 1⟩
/-- u, v and the quotient in memory -/
structure M3 (w : World) (gu gv gq la n : Nat) (v u q : List Int) (wr : World) : Prop where
  mu : Wrd w gu (la + 1) u wr
  mv : Blk wr gv 78 ((v ++ [0]).map U).toArray
  mq : Wrd w gq (la - n + 1) q wr
  lv : v.length = n
structure Apart (w : World) (gu gv gq : Nat) : Prop where
  hu : w.heap.size ≤ gu
  hv : w.heap.size ≤ gv
  hq : w.heap.size ≤ gq
  uv : gu ≠ gv
  uq : gu ≠ gq
  vq : gv ≠ gq
section
variable {w wr : World} {gu gv gq la n : Nat} {v u q : List Int}
theorem M3.setU (h : M3 w gu gv gq la n v u q wr) (ha : Apart w gu gv gq) (i : Nat) {x : Int} (hx : 0 ≤ x ∧ x < 4294967296) : M3 w gu gv gq la n v (u.set i x) q (wr.setCell ⟨gu, i, none⟩ (U x)) :=
  ⟨h.mu.set i hx ha.hu, h.mv.far (fun e => ha.uv e.symm) _, h.mq.far (fun e => ha.uq e.symm) ha.hu _, h.lv⟩
theorem M3.setQ (h : M3 w gu gv gq la n v u q wr) (ha : Apart w gu gv gq) (i : Nat) {x : Int} (hx : 0 ≤ x ∧ x < 4294967296) : M3 w gu gv gq la n v u (q.set i x) (wr.setCell ⟨gq, i, none⟩ (U x)) :=
  ⟨h.mu.far ha.uq ha.hq _, h.mv.far ha.vq _, h.mq.set i hx ha.hq, h.lv⟩
theorem M3.cv (h : M3 w gu gv gq la n v u q wr) {i : Nat} (hi : i < n) : wr.cell? ⟨gv, i, none⟩ = some (U (v.getD i 0)) := by
  have := h.lv
  rw [h.mv.cell]
  simp [List.getElem?_append, this, hi]
end
theorem M3.drewN {w wr : World} {gu gv gq la n : Nat} {v u q : List Int} (h : M3 w gu gv gq la n v u q wr) (k : Nat) : M3 w gu gv gq la n v u q (wr.drewN k) :=
  ⟨⟨h.mu.len, h.mu.ok, h.mu.blk, below_drewN h.mu.below k⟩, h.mv, ⟨h.mq.len, h.mq.ok, h.mq.blk, below_drewN h.mq.below k⟩, h.lv⟩
/-- the guess of a word of the quotient, while it is made less -/
structure GI (uh um vt dq g rest : Int) : Prop where
  g0 : 0 ≤ g
  g1 : g ≤ 4294967297
  r0 : 0 ≤ rest
  r1 : rest < 4294967296
  eq : g * vt + rest = uh * 4294967296 + um
  le : dq ≤ g
section
variable {X Vj uh um ul vt vs q : Int}
theorem Tops.first (h : Tops X Vj uh um ul vt vs) (h0 : 0 ≤ uh) (hd : Dig X Vj q) : GI uh um vt q ((uh * 4294967296 + um) / vt) ((uh * 4294967296 + um) % vt) := by
  obtain ⟨D, vl, xl, hD, eV, v0, v1, eX, x0, x1⟩ := h.ex
  obtain ⟨m0, m1⟩ := h.hum
  obtain ⟨l0, l1⟩ := h.hul
  obtain ⟨t0, t1⟩ := h.hvt
  obtain ⟨s0, s1⟩ := h.hvs
  have hh := h.huh
  have e := Int.emod_add_mul_ediv (uh * 4294967296 + um) vt
  have e0 := Int.emod_nonneg (uh * 4294967296 + um) (show vt ≠ 0 by omega)
  have e1 := Int.emod_lt_of_pos (uh * 4294967296 + um) (show 0 < vt by omega)
  have lo := hd.lo
  rw [eV, eX] at lo
  have h1 := est_low hD hd.q0 v0 x1 lo
  have h2 : 0 ≤ q * vs := Int.mul_nonneg hd.q0 s0
  have h3 : q * vt ≤ uh * 4294967296 + um := by
    have : q * (vt * 4294967296 + vs) = q * vt * 4294967296 + q * vs := by grind
    omega
  have hb : (uh * 4294967296 + um) / vt < 4294967298 := Int.ediv_lt_of_lt_mul (by omega) (by omega)
  refine ⟨Int.ediv_nonneg (by omega) (by omega), by omega, e0, by omega, by rw [Int.mul_comm]; omega, (Int.le_ediv_iff_mul_le (by omega)).2 h3⟩
end
/-- the guess behind the loop -/
def CutG (wa : World) (X Vj dq : Int) (gv : Value) (wx : World) : Prop := ∃ (g : Int) (q : Nat), gv = .int .u64 g ∧ wx = wa.drewN q ∧ (0 ≤ g ∧ g < 4294967296) ∧ dq ≤ g ∧ (g - 1) * Vj ≤ X
theorem CutG.any {wa : World} {X Vj dq : Int} {gv : Value} {k : Nat} (h : CutG wa X Vj dq gv (wa.drewN k)) (m : Nat) : CutG wa X Vj dq gv (wa.drewN m) := by
  obtain ⟨g, q, h1, _, h2⟩ := h
  exact ⟨g, _, h1, rfl, h2⟩
theorem top_zero {u v : List Int} {j n : Nat} (ou : Ok u) (ov : Ok v) (lv : v.length = n) (h : val u < val v * P32 (j + 1)) : ∀ k, n + j < k → u.getD k 0 = 0 := by
  intro k hk
  refine zero_above ou (K := n + (j + 1)) ?_ (by omega)
  have h1 := val_lt ov
  rw [lv] at h1
  have h2 : val v * P32 (j + 1) ≤ P32 n * P32 (j + 1) := Int.mul_le_mul_of_nonneg_right (by omega) (by have := P32_pos (j + 1); omega)
  rw [← P32_add] at h2
  omega
theorem and_low {c : Int} (h0 : 0 ≤ c) (h1 : c < 18446744073709551616) : bits BinOp.and IntKind.u64 c 4294967295 = c % 4294967296 := by
  rw [u64_and _ _ h0 h1 (by omega) (by omega)]
  have e : (4294967295 : Int).toNat = 2 ^ 32 - 1 := by decide
  rw [e, Nat.and_two_pow_sub_one_eq_mod]
  omega
/-- what divWords returns -/
def RetDiv (w : World) (a b : Int) (e : Ending) (w' : World) : Prop :=
  ∃ Aq cq Ar cr q r, e = .returned (.tuple #[.slice Aq (q : List Int).length cq, .slice Ar (r : List Int).length cr]) ∧ Reads w' w'.heap.size 1 Aq q.length (q.map U) ∧ Reads w' w'.heap.size 1 Ar r.length (r.map U) ∧ Ok q ∧ Ok r ∧ val q = a / b ∧ val r = a % b ∧ (q.length ≤ 1000000 ∧ r.length ≤ 1000000) ∧ Below w.heap.size w w'
theorem ret_div {A B : Option Addr} {n m : Nat} {q r : List Int} (h1 : q.length = n) (h2 : r.length = m) : Ending.returned (.tuple #[.slice A n n, .slice B m m]) = .returned (.tuple #[.slice A q.length n, .slice B r.length m]) := by rw [h1, h2]
/-- u and v as the two shifts lay them -/
def Two (w : World) (a b : List Int) (s : Nat) (uv vv : Value) (wx : World) : Prop :=
  ∃ gu gv u v, uv = .slice (some ⟨gu, 0, none⟩) (a.length + 1) (a.length + 1) ∧ vv = .slice (some ⟨gv, 0, none⟩) b.length (b.length + 1) ∧ gu ≠ gv ∧ w.heap.size ≤ gu ∧ w.heap.size ≤ gv ∧ Wrd w gu (a.length + 1) u wx ∧ Blk wx gv 78 (((v ++ [0] : List Int)).map U).toArray ∧ v.length = b.length ∧ Ok v ∧ val v = val b * 2 ^ s ∧ 2147483648 ≤ v.getD (b.length - 1) 0 ∧ val u = val a * 2 ^ s
theorem two_of {w wx : World} {a b u o : List Int} {s gu gv : Nat} (ob : Ok b) (hb2 : 2 ≤ b.length) (hs : s ≤ 31) (h1 : 2147483648 ≤ b.getD (b.length - 1) 0 * 2 ^ s) (h2 : b.getD (b.length - 1) 0 * 2 ^ s < 4294967296) (hne : gu ≠ gv) (hgv : w.heap.size ≤ gv) (hgu : w.heap.size ≤ gu)
    (hu : Wrd w gu (a.length + 1) u wx) (hv : Wrd w gv (b.length + 1) o wx) (eu : val u = val a * 2 ^ s) (ev : val o = val b * 2 ^ s) : Two w a b s (.slice (some ⟨gu, 0, none⟩) (a.length + 1) (a.length + 1)) (.slice (some ⟨gv, 0, none⟩) b.length (b.length + 1)) wx := by
  obtain ⟨v, rfl, lv, ov, evv, htop⟩ := norm_div (k := b.length - 1) ob (by omega) hs h1 h2 hv.ok (by rw [hv.len]; omega) ev
  exact ⟨gu, gv, u, v, rfl, rfl, hne, hgu, hgv, hu, hv.blk, by omega, ov, evv, htop, eu⟩
end Go.Proofs.YtpbdlmjfjkfphaaGreatDoor
