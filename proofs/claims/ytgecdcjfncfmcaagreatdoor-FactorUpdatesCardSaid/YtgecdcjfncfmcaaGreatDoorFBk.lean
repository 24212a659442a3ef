/- Plain facts of updates of factors, and rows of texts in the making. -/
import Derived.Test.YtgecdcjfncfmcaaGreatDoorSJG
namespace Go.Proofs.YtgecdcjfncfmcaaGreatDoor
open Go.RowKit

theorem smat_one {w : World} {A : Option Addr} {n c : Nat} {l : List ByteArray} (h : SV w A n l) : SMat (w.alloc (.cells #[.slice A n c] vecT)) (some ⟨w.heap.size, 0, none⟩) 1 [l] ∧ Below w.heap.size w (w.alloc (.cells #[.slice A n c] vecT)) := by
  have hb := below_new w (.cells #[.slice A n c] vecT)
  refine ⟨⟨[.slice A n c], one_reads w vecT _, rfl, fun i u x hu hx => ?_⟩, hb⟩
  match i with
  | 0 =>
    simp at hu hx
    subst hu hx
    exact ss_of (h.below hb)
  | i + 1 => simp at hx
theorem fs_text {m : MT} (h : squareT m = 0) : txM (valsM m) = (m, 0) := by
  have va := chkM_ok (square_ok h).2.2
  rw [txM_fit va.fit, va.text]
theorem fsolT_len (V : MQ) (n : Nat) (b : List (List UInt8)) : (fsolT V n b).1.length ≤ V.length := by
  unfold fsolT
  split
  · exact Nat.zero_le _
  · unfold txV
    split
    · rw [List.length_map, fsolQ, List.length_map]; exact Nat.le_refl _
    · exact Nat.zero_le _
theorem det_pair {m : MT} (h : squareT m = 0) (hs : smallB 5 m = true) : detT m = (qText (detR (valsM m) m.length), 0) := by
  rw [detR_det (square_ok h).1.vals]
  exact detT_ok h hs
theorem small_rows5 {N : Nat} {m : List (List ByteArray)} (h : smallB N (tx2 m) = true) : ∀ r ∈ m, r.length ≤ N := fun r hr => by
  have h1 := (small_len h).2 (tx1 r) (List.mem_map_of_mem hr)
  rwa [tx1, List.length_map] at h1
theorem smat_of {w : World} {vs : List Value} {m : List (List ByteArray)} (hl : m.length = vs.length) (h : ∀ (i : Nat) (u : Value) (l : List ByteArray), vs[i]? = some u → m[i]? = some l → ∃ A n c, u = .slice A n c ∧ SV w A n l) :
    SMat (w.alloc (.cells vs.toArray vecT)) (some ⟨w.heap.size, 0, none⟩) vs.length m ∧ Below w.heap.size w (w.alloc (.cells vs.toArray vecT)) := by
  have hb := below_new w (.cells vs.toArray vecT)
  have hr := reads_lits w vecT vs
  rw [← World.size_alloc w (.cells vs.toArray vecT)] at hr
  refine ⟨⟨vs, hr, hl, fun i u x hu hx => ?_⟩, hb⟩
  obtain ⟨A, n, c, rfl, hs⟩ := h i u x hu hx
  exact ss_of (hs.below hb)
theorem smat_two {w : World} {A B : Option Addr} {n c k d : Nat} {l m : List ByteArray} (h : SV w A n l) (g : SV w B k m) : SMat (w.alloc (.cells #[.slice A n c, .slice B k d] vecT)) (some ⟨w.heap.size, 0, none⟩) 2 [l, m] ∧ Below w.heap.size w (w.alloc (.cells #[.slice A n c, .slice B k d] vecT)) :=
  smat_of (vs := [.slice A n c, .slice B k d]) rfl fun i u x h1 h2 => by
    match i with
    | 0 => simp at h1 h2; subst h1 h2; exact ⟨A, n, c, rfl, h⟩
    | 1 => simp at h1 h2; subst h1 h2; exact ⟨B, k, d, rfl, g⟩
    | i + 2 => simp at h1
theorem smat_three {w : World} {A B C : Option Addr} {n c k d j e : Nat} {l m p : List ByteArray} (h : SV w A n l) (g : SV w B k m) (f : SV w C j p) : SMat (w.alloc (.cells #[.slice A n c, .slice B k d, .slice C j e] vecT)) (some ⟨w.heap.size, 0, none⟩) 3 [l, m, p] ∧ Below w.heap.size w (w.alloc (.cells #[.slice A n c, .slice B k d, .slice C j e] vecT)) :=
  smat_of (vs := [.slice A n c, .slice B k d, .slice C j e]) rfl fun i u x h1 h2 => by
    match i with
    | 0 => simp at h1 h2; subst h1 h2; exact ⟨A, n, c, rfl, h⟩
    | 1 => simp at h1 h2; subst h1 h2; exact ⟨B, k, d, rfl, g⟩
    | 2 => simp at h1 h2; subst h1 h2; exact ⟨C, j, e, rfl, f⟩
    | i + 3 => simp at h1
theorem Sm4.updfit {M : MQ} {n : Nat} {x y : List Rat} (h : Sm4 (addOut M x y) n) : UpdFit M n x y :=
  ⟨by have := h.n4; omega, fun r hr q hq => (h.fit r hr q hq).mono (by omega), h.txt, fun _ => h.inv, h.detfit⟩
theorem updT_zero {M : MQ} {n : Nat} {u v : List (List UInt8)} (h : updT M n u v = 0) : fchk n u = 0 ∧ fchk n v = 0 ∧ ¬ (redQ (extI (addOut M (valsV u) (valsV v)) n) n).2.length < n := by
  unfold updT at h
  split at h
  · rename_i k; exact absurd h k
  · rename_i k
    split at h
    · rename_i k2; exact absurd h k2
    · rename_i k2
      split at h
      · cases h
      · rename_i k3; exact ⟨Decidable.not_not.1 k, Decidable.not_not.1 k2, k3⟩
theorem updT_ok {M : MQ} {n : Nat} {u v : List (List UInt8)} (hu : fchk n u = 0) (hv : fchk n v = 0) (h : Reg (addOut M (valsV u) (valsV v)) n) : updT M n u v = 0 := by
  unfold updT
  rw [if_neg (fun k => k hu), if_neg (fun k => k hv), if_neg h.full]
theorem updT_ten {M : MQ} {n : Nat} {u v : List (List UInt8)} (hu : fchk n u = 0) (hv : fchk n v = 0) (hR : Rect M n n) (h : ¬ Reg (addOut M (valsV u) (valsV v)) n) : updT M n u v = 10 := by
  unfold updT
  rw [if_neg (fun k => k hu), if_neg (fun k => k hv), if_pos (det_not (rect_addOut hR _ _) h)]
theorem fchk_of {n : Nat} {u : List (List UInt8)} (hc : chkV u = 0) (hl : u.length = n) : fchk n u = 0 := by
  unfold fchk
  rw [if_neg (fun k => k hc), if_neg (fun k => k hl)]
def negB (u : List ByteArray) : List ByteArray := mkS (negT (tx1 u))
theorem tx_negB (u : List ByteArray) : tx1 (negB u) = negT (tx1 u) := tx_mk _
theorem negB_len (u : List ByteArray) : (negB u).length = u.length := by
  unfold negB mkS negT tx1
  rw [List.length_map, List.length_map, List.length_map]
theorem negB_take {u : List ByteArray} {k : Nat} {q : ByteArray} (h : u[k]? = some q) : (negB u).take (k + 1) = (negB u).take k ++ [⟨(qText (-rval (SL q))).toArray⟩] := by
  have e : (negB u)[k]? = some ⟨(qText (-rval (SL q))).toArray⟩ := by
    unfold negB mkS negT tx1
    rw [List.getElem?_map, List.getElem?_map, List.getElem?_map, h]
    rfl
  rw [List.take_add_one, e]
  rfl
theorem sh_negB {u : List ByteArray} (h : chkV (tx1 u) = 0) : Sh1 (negB u) := by
  have hc := (neg_law h).1
  have hf : ((tx1 u).map fun s => -rval s).all fitQ = true := by
    rw [List.all_eq_true]
    intro q hq
    obtain ⟨s, hs, rfl⟩ := List.mem_map.1 hq
    have h1 := (back_text ((chkV_ok h).2 s hs)).1
    unfold fitQ at h1 ⊢
    rw [Rat.neg_num, Rat.neg_den, Int.natAbs_neg]
    exact h1
  have h2 := sh_mk hf
  rw [List.map_map] at h2
  exact h2
theorem NRow.sv {w : World} {base n c : Nat} {A : Option Addr} {l : List ByteArray} (h : NRow w base strT (.slice A n c) (l.map Sv)) (hn : l.length = n) : SV w A n l := by
  subst hn
  have hr := h.row
  rw [List.length_map] at hr
  exact hr.reads
theorem nrow_one (w : World) (s : ByteArray) : NRow (w.alloc (.cells #[.string s] strT)) w.heap.size strT (.slice (some ⟨w.heap.size, 0, none⟩) 1 1) ([s].map Sv) := by
  refine ⟨⟨rfl, .inr ⟨w.heap.size, 0, 1, #[.string s], rfl, Nat.le_refl _, Blk.new w strT #[.string s], Nat.le_refl _, by unfold maxLen; omega, Nat.le_refl _, rfl⟩⟩, fun g o n hg => ?_, str_ok⟩
  have hg : w.heap.size = g := by simpa [Value.ownBlock] using hg
  subst hg
  rw [(Blk.new w strT #[.string s]).cell]
  match o with
  | 0 => simp
  | o + 1 => simp
def colB (u : List ByteArray) : List (List ByteArray) := u.map fun q => [q]
theorem tx_colB (u : List ByteArray) : tx2 (colB u) = (tx1 u).map fun q => [q] := by
  unfold colB tx2 tx1
  rw [List.map_map, List.map_map]
  rfl
theorem colB_len (u : List ByteArray) : (colB u).length = u.length := List.length_map _
theorem colB_take {u : List ByteArray} {k : Nat} {q : ByteArray} (h : u[k]? = some q) : (colB u).take (k + 1) = (colB u).take k ++ [[q]] := by
  have e : (colB u)[k]? = some [q] := by unfold colB; rw [List.getElem?_map, h]; rfl
  rw [List.take_add_one, e]
  rfl
theorem small_row {N : Nat} {m : List (List ByteArray)} (h : smallB N (tx2 m) = true) {u : List ByteArray} (hu : u ∈ m) : ∀ s ∈ tx1 u, s.length ≤ 12 := fun s hs => by
  unfold smallB at h
  rw [Bool.and_eq_true, List.all_eq_true] at h
  have h1 := h.2 (tx1 u) (List.mem_map_of_mem hu)
  rw [Bool.and_eq_true, List.all_eq_true] at h1
  exact of_decide_eq_true (h1.2 s hs)
theorem small_h4 {m : List (List ByteArray)} {n : Nat} (hs : smallB 4 (tx2 m) = true) (hn : (tx2 m).length = n) : squareT (tx2 m) = 0 → n ≤ 5 ∧ ∀ r ∈ valsM (tx2 m), ∀ x ∈ r, FitR 14 x := fun h => by
  have h4 := Sm4.of_small h hs
  refine ⟨?_, fun r hr x hx => (h4.fit r hr x hx).mono (by omega)⟩
  have := h4.n4
  omega
theorem upd4 {m : MT} {n : Nat} (hsq : squareT m = 0) (hs : smallB 4 m = true) (hn : m.length = n) {u v : List (List UInt8)} (su : ∀ s ∈ u, s.length ≤ 12) (sv : ∀ s ∈ v, s.length ≤ 12) : fchk n u = 0 → fchk n v = 0 → UpdFit (valsM m) n (valsV u) (valsV v) := fun h1 h2 => by
  subst hn
  exact (Sm4.upd hsq hs (fchk_ok h1).1 (fchk_ok h2).1 su sv).updfit
theorem small_rows4 {N : Nat} {m : List (List ByteArray)} (h : smallB N (tx2 m) = true) : ∀ r ∈ m, r.length ≤ N := fun r hr => by
  have h1 := (small_len h).2 (tx1 r) (List.mem_map_of_mem hr)
  rwa [tx1, List.length_map] at h1
end Go.Proofs.YtgecdcjfncfmcaaGreatDoor
