/- A matrix that came in as an argument, opened; the table of powers of ten, out of the row's list. A matrix argument, with its capacity. -/
import Derived.Test.YtgecdcjfncfmcaaGreatDoorJP
import Derived.Test.YtgecdcjfncfmcaaGreatDoorRows
import Derived.Test.YtgecdcjfncfmcaaGreatDoorJH
import Derived.Lib.LaidTab
import Derived.Stop.LaidErr
import Derived.LaidMore
import Derived.ProofKit
import Derived.OpenShut
import Derived.Deep.Slices
import Derived.Deep.Fields
import Derived.ChangeOld
namespace Go.Proofs.YtgecdcjfncfmcaaGreatDoor
open Go.ChangeShapes Go.WideShapes Go.ChangeAt Go.RowKit Go.Deep

theorem size_of_wf {s : ByteArray} (h : s.size ≤ maxLen) : s.size ≤ 9223372036854775807 := by unfold maxLen at h; omega
theorem own : ownKnob Tryz.prog.godebug = none := by kernel_rfl
theorem laidOut : laidOutB Tryz.prog = true := by kernel_rfl
theorem cellsStr : Tryz.prog.cellsOf 53 = 1 := by kernel_rfl
theorem cellsVec : Tryz.prog.cellsOf 31 = 1 := by kernel_rfl
def cellsBy {α : Type} (f : α → List Value) (l : List α) : List Value := l.flatMap f
theorem cellsBy_len {α : Type} {f : α → List Value} {sz : Nat} (hf : ∀ x, (f x).length = sz) (l : List α) : (cellsBy f l).length = l.length * sz := by
  induction l with
  | nil => simp [cellsBy]
  | cons x l ih =>
    simp only [cellsBy, List.flatMap_cons, List.length_append, List.length_cons, hf] at ih ⊢
    rw [ih, Nat.add_mul]; omega
theorem cellsBy_at {α : Type} {f : α → List Value} {sz : Nat} (hf : ∀ x, (f x).length = sz) (l : List α) (k : Nat) (x : α) (h : l[k]? = some x) (j : Nat) (hj : j < sz) : (cellsBy f l)[k * sz + j]? = (f x)[j]? := by
  induction l generalizing k with
  | nil => simp at h
  | cons y l ih =>
    cases k with
    | zero =>
      simp at h; subst h
      simp only [cellsBy, List.flatMap_cons]
      rw [List.getElem?_append_left (by rw [hf]; omega)]
      congr 1; omega
    | succ k =>
      have := ih k (by simpa using h)
      simp only [cellsBy, List.flatMap_cons] at this ⊢
      rw [List.getElem?_append_right (by rw [hf, Nat.add_mul]; omega), hf, ← this]
      congr 1
      rw [Nat.add_mul]; omega
section
variable {H : Type} {enc : TypeId × Value → H} {W : World}
/-- a slice of things that take sz cells each -/
theorem open_many {D : Type} [Inhabited D] {f : D → List Value} {ok : D → Prop} {sz : Nat} {T E : TypeId} (hsz : 0 < sz) (hf : ∀ x, (f x).length = sz) (hT : Tryz.prog.underlying T = some (.slice E)) (hC : Tryz.prog.cellsOf E = sz)
    (hel : ∀ (fuel : Nat) (cs : List Value) (y : DataW H × List MemPlace), DataW.trod enc Tryz.prog W 0 (fun _ => true) true fuel E cs = some y → ∃ x : D, f x = cs ∧ ok x)
    {fuel : Nat} {u : Value} {y : DataW H × List MemPlace} (h : DataW.trod enc Tryz.prog W 0 (fun _ => true) true fuel T [u] = some y) :
    ∃ (l : List D) (A : Option Addr) (c : Nat), u = .slice A l.length c ∧ Reads W W.heap.size sz A l.length (cellsBy f l) ∧ (∀ x ∈ l, ok x) ∧ l.length ≤ 9223372036854775807 ∧ l.length ≤ c := by
  rcases open_slice hT h with ⟨hcs, _⟩ | ⟨a, len, cap, m, n, Dd, Pl, hcs, _, hl, hm, hmm, _, hi⟩
  · injection hcs with hcs
    exact ⟨[], none, 0, hcs, Reads.nil, by simp, by simp, by simp⟩
  · injection hcs with hcs
    simp at hmm
    subst hmm
    rw [hC] at hi
    have each : ∀ i, i < m → ∃ x : D, ok x ∧ ∀ j u, (f x)[j]? = some u → W.cell? (a.add (i * sz + j)) = some u := by
      intro i him
      obtain ⟨cs', g1, g2⟩ := hi i him
      obtain ⟨x, hx, hok⟩ := hel _ _ _ g2
      obtain ⟨_, hcl, hat⟩ := World.cells?_some g1
      refine ⟨x, hok, fun j u hu => ?_⟩
      rw [hx] at hu
      have hj : j < sz := by have := (List.getElem?_eq_some_iff.1 hu).1; omega
      rw [← add_add, hat j hj]
      exact hu
    obtain ⟨g, hg⟩ := choose_lt each
    have hlen : ((List.range len).map g).length = len := by simp
    refine ⟨(List.range len).map g, some a, m, by rw [hlen]; exact hcs, ?_, ?_, by unfold maxLen at hm; rw [hlen]; omega, by rw [hlen]; exact hl⟩
    · refine ⟨cellsBy_len hf _, fun h0 => ?_⟩
      rw [hlen] at h0
      obtain ⟨b, off, spot⟩ := a
      have h00 : 0 < (f (g 0)).length := by rw [hf]; exact hsz
      have hc0 := (hg 0 (by omega)).2 0 _ (List.getElem?_eq_getElem h00)
      have hspot : spot = none := by simpa [Addr.add] using World.cell?_spot hc0
      subst hspot
      refine ⟨b, off, rfl, by have := World.block_lt_of_cell? _ _ hc0; rwa [Addr.add_lit] at this, fun j u hu => ?_⟩
      have hj : j < len * sz := by
        have := (List.getElem?_eq_some_iff.1 hu).1
        rw [cellsBy_len hf, hlen] at this
        exact this
      have hk : j / sz < len := Nat.div_lt_of_lt_mul (by rw [Nat.mul_comm]; exact hj)
      have hjm : j / sz * sz + j % sz = j := by rw [Nat.mul_comm]; exact Nat.div_add_mod j sz
      have hx := cellsBy_at hf ((List.range len).map g) (j / sz) (g (j / sz)) (by simp [hk]) (j % sz) (Nat.mod_lt _ hsz)
      rw [hjm] at hx
      rw [hx] at hu
      have := (hg (j / sz) (by omega)).2 (j % sz) u hu
      rw [hjm, Addr.add_lit] at this
      exact this
    · intro x hx
      obtain ⟨i, hi', rfl⟩ := List.mem_map.1 hx
      exact (hg i (by have := List.mem_range.1 hi'; omega)).1

theorem el_str (fuel : Nat) (cs : List Value) (y : DataW H × List MemPlace) (h : DataW.trod enc Tryz.prog W 0 (fun _ => true) true fuel 53 cs = some y) : ∃ s : ByteArray, [Value.string s] = cs ∧ s.size ≤ 9223372036854775807 := by
  obtain ⟨s, rfl, _, hb⟩ := DataW.trod_string Tryz.underlying53 h
  exact ⟨s, rfl, size_of_wf hb⟩
theorem by_str (l : List ByteArray) : cellsBy (fun s => [Value.string s]) l = l.map Sv := by
  induction l with
  | nil => rfl
  | cons x l ih => simp only [cellsBy, List.flatMap_cons, List.map_cons] at ih ⊢; rw [ih]; rfl
theorem open_vec {T : TypeId} (hT : Tryz.prog.underlying T = some (.slice 53)) {fuel : Nat} {u : Value} {y : DataW H × List MemPlace} (h : DataW.trod enc Tryz.prog W 0 (fun _ => true) true fuel T [u] = some y) :
    ∃ (l : List ByteArray) (A : Option Addr) (c : Nat), u = .slice A l.length c ∧ Reads W W.heap.size 1 A l.length (l.map Sv) ∧ Sh1 l ∧ l.length ≤ 9223372036854775807 := by
  obtain ⟨l, A, c, h1, h2, h3, h4, _⟩ := open_many (f := fun s : ByteArray => [Value.string s]) (ok := fun s => s.size ≤ 9223372036854775807) (sz := 1) (by decide) (fun _ => rfl) hT cellsStr el_str h
  rw [by_str] at h2
  exact ⟨l, A, c, h1, h2, h3, h4⟩
theorem el_vec (fuel : Nat) (cs : List Value) (y : DataW H × List MemPlace) (h : DataW.trod enc Tryz.prog W 0 (fun _ => true) true fuel 31 cs = some y) : ∃ x : Value × List ByteArray, [x.1] = cs ∧ (SS W x.1 x.2 ∧ Sh1 x.2) := by
  have h0 := h
  rcases open_slice Tryz.underlying31 h with ⟨rfl, _⟩ | ⟨a, len, cap, m, n, Dd, Pl, rfl, _⟩
  · obtain ⟨l, A, c, h1, h2, h3, _⟩ := open_vec Tryz.underlying31 h0
    exact ⟨(_, l), rfl, ⟨A, c, h1, h2⟩, h3⟩
  · obtain ⟨l, A, c, h1, h2, h3, _⟩ := open_vec Tryz.underlying31 h0
    exact ⟨(_, l), rfl, ⟨A, c, h1, h2⟩, h3⟩
theorem open_mat {fuel : Nat} {u : Value} {y : DataW H × List MemPlace} (h : DataW.trod enc Tryz.prog W 0 (fun _ => true) true fuel 57 [u] = some y) :
    ∃ (m : List (List ByteArray)) (A : Option Addr) (c : Nat), u = .slice A m.length c ∧ SMat W A m.length m ∧ Sh2 m := by
  obtain ⟨l, A, c, h1, h2, h3, _, _⟩ := open_many (f := fun x : Value × List ByteArray => [x.1]) (ok := fun x => SS W x.1 x.2 ∧ Sh1 x.2) (sz := 1) (by decide) (fun _ => rfl) Tryz.underlying57 cellsVec el_vec h
  refine ⟨l.map (·.2), A, c, by rw [List.length_map]; exact h1, ⟨cellsBy (fun x => [x.1]) l, by rw [List.length_map]; exact h2, rfl, fun i u r hu hr => ?_⟩, fun r hr => ?_⟩
  · rw [List.getElem?_map] at hr
    cases e : l[i]? with
    | none => rw [e] at hr; cases hr
    | some x =>
      rw [e] at hr
      have hr := Option.some.inj hr
      have := cellsBy_at (f := fun x : Value × List ByteArray => [x.1]) (sz := 1) (fun _ => rfl) l i x e 0 (by decide)
      rw [Nat.mul_one, Nat.add_zero, hu] at this
      have := Option.some.inj this
      subst hr this
      exact (h3 x (List.mem_of_getElem? e)).1
  · obtain ⟨x, hx, rfl⟩ := List.mem_map.1 hr
    exact (h3 x hx).2
end
theorem gPow : (Tryz.prog.globalNamed "internal/strconv.uint64pow10").isSome = true := by kernel_rfl
theorem tab_of_laid {W : World} (h : laidMetH Tryz.prog Rows.factorSolvesRow.laid W) : Tab W := by
  rw [MakeChecks.laidMetH_plain _ _ _ (by kernel_rfl)] at h
  have h2 := (show laidMet Tryz.prog [("math/bits.deBruijn32tab", Rows.laid_math_bits_deBruijn32tab), ("math/bits.deBruijn64tab", Rows.laid_math_bits_deBruijn64tab), ("internal/strconv.uint64pow10", Lib.tabData .u64 Lib.pow10Tab), ("strconv.ErrRange", Rows.laid_strconv_ErrRange), ("strconv.ErrSyntax", Rows.laid_strconv_ErrSyntax)] W from h).tail.tail
  obtain ⟨g, hg⟩ := Option.isSome_iff_exists.1 gPow
  exact Lib.tabIs_of_head hg (by obtain rfl : g = (Tryz.prog.globalNamed "internal/strconv.uint64pow10").get gPow := by simp [hg]
                                 kernel_rfl) Tryz.underlying302 Tryz.underlying215 (by kernel_rfl) (by kernel_rfl) h2
end Go.Proofs.YtgecdcjfncfmcaaGreatDoor
namespace Go.Proofs.YtgecdcjfncfmcaaGreatDoor
open Go.ChangeShapes Go.WideShapes Go.ChangeAt Go.RowKit Go.ChangeMaps

section
variable {H : Type} {enc : TypeId × Value → H} {W : World}
theorem open_matC {fuel : Nat} {u : Value} {y : DataW H × List MemPlace} (h : DataW.trod enc Tryz.prog W 0 (fun _ => true) true fuel 57 [u] = some y) :
    ∃ (m : List (List ByteArray)) (A : Option Addr) (c : Nat), u = .slice A m.length c ∧ SMat W A m.length m ∧ Sh2 m ∧ m.length ≤ c := by
  obtain ⟨m, A, c, h1, h2, h3⟩ := open_mat h
  obtain ⟨l, A', c', k1, _, _, _, k4⟩ := open_many (f := fun x : Value × List ByteArray => [x.1]) (ok := fun x => SS W x.1 x.2 ∧ Sh1 x.2) (sz := 1) (by decide) (fun _ => rfl) Tryz.underlying57 cellsVec el_vec h
  refine ⟨m, A, c, h1, h2, h3, ?_⟩
  rw [h1] at k1
  injection k1 with _ k2 k3
  omega
end
end Go.Proofs.YtgecdcjfncfmcaaGreatDoor
