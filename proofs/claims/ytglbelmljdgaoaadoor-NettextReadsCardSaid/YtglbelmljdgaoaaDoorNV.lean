/- The arguments of the network laws, opened: a slice of ints; the table of powers of ten, out of the row's list. The table and the two error variables, out of the row's list. -/
import Derived.Test.YtglbelmljdgaoaaDoorOpenNet
import Derived.Test.YtglbelmljdgaoaaDoorNxA
import Derived.Test.YtglbelmljdgaoaaDoorRows
import Derived.Lib.LaidTab
import Derived.Stop.LaidErr
import Derived.LaidMore
import Derived.Test.YtglbelmljdgaoaaDoorNF
namespace Go.Proofs.YtglbelmljdgaoaaDoor
open Go.ChangeShapes Go.WideShapes Go.ChangeAt Go.RowKit Go.Deep

theorem gPow : (Tryd.prog.globalNamed "internal/strconv.uint64pow10").isSome = true := by kernel_rfl
theorem pow_data {H : Type} : (Rows.laid_internal_strconv_uint64pow10 : DataW H) = Lib.tabData .u64 Lib.pow10Tab := rfl
theorem tab_of_laid {W : World} (h : laidMetH Tryd.prog Rows.topologyFollowsRow.laid W) : Tab W := by
  rw [MakeChecks.laidMetH_plain _ _ _ (by kernel_rfl)] at h
  have h2 := (show laidMet Tryd.prog [("math/bits.deBruijn32tab", Rows.laid_math_bits_deBruijn32tab), ("math/bits.deBruijn64tab", Rows.laid_math_bits_deBruijn64tab), ("internal/strconv.uint64pow10", Lib.tabData .u64 Lib.pow10Tab)] W from h).tail.tail
  obtain ⟨g, hg⟩ := Option.isSome_iff_exists.1 gPow
  exact Lib.tabIs_of_head hg (by obtain rfl : g = (Tryd.prog.globalNamed "internal/strconv.uint64pow10").get gPow := by simp [hg]
                                 kernel_rfl) Tryd.underlying193 Tryd.underlying170 (by kernel_rfl) (by kernel_rfl) h2
section
variable {H : Type} {enc : TypeId × Value → H} {W : World}
theorem el_int (fuel : Nat) (cs : List Value) (y : DataW H × List MemPlace) (h : DataW.trod enc Tryd.prog W 0 (fun _ => true) true fuel 3 cs = some y) : ∃ z : Int, [I z] = cs ∧ True := by
  obtain ⟨z, rfl, _, _⟩ := DataW.trod_int Tryd.underlying3 h
  exact ⟨z, rfl, trivial⟩
theorem by_int (l : List Int) : cellsBy (fun z => [I z]) l = l.map I := by
  induction l with
  | nil => rfl
  | cons x l ih => simp only [cellsBy, List.flatMap_cons, List.map_cons] at ih ⊢; rw [ih]; rfl
theorem open_ints {T : TypeId} (hT : Tryd.prog.underlying T = some (.slice 3)) {fuel : Nat} {u : Value} {y : DataW H × List MemPlace} (h : DataW.trod enc Tryd.prog W 0 (fun _ => true) true fuel T [u] = some y) :
    ∃ (l : List Int) (A : Option Addr) (c : Nat), u = .slice A l.length c ∧ Reads W W.heap.size 1 A l.length (l.map I) ∧ l.length ≤ 9223372036854775807 := by
  obtain ⟨l, A, c, h1, h2, _, h4, _⟩ := open_many (f := fun z : Int => [I z]) (ok := fun _ => True) (sz := 1) (by decide) (fun _ => rfl) hT cells3 el_int h
  rw [by_int] at h2
  exact ⟨l, A, c, h1, h2, h4⟩
end
end Go.Proofs.YtglbelmljdgaoaaDoor
namespace Go.Proofs.YtglbelmljdgaoaaDoor
open Go.ChangeShapes Go.WideShapes Go.ChangeAt Go.RowKit Go.Deep

theorem size_of_wf {s : ByteArray} (h : s.size ≤ maxLen) : s.size ≤ 9223372036854775807 := by unfold maxLen at h; omega
theorem gRange : (Tryd.prog.globalNamed "strconv.ErrRange").isSome = true := by kernel_rfl
theorem gSyn : (Tryd.prog.globalNamed "strconv.ErrSyntax").isSome = true := by kernel_rfl
theorem starES : "*" ++ "errors.errorString" = "*errors.errorString" := by decide
theorem rowES (u : TypeId) (h : Tryd.prog.typeName? 3 u = some "*errors.errorString") : u = 197 :=
  typeName_ptr_named (nm := "errors.errorString") (by rw [starES]; kernel_rfl) (by kernel_rfl) (by decide) u (by rw [starES]; exact h)
theorem cellsES : Tryd.prog.cellsOf 199 = 1 := by kernel_rfl
theorem cellsSt : Tryd.prog.cellsOf 9 = 1 := by kernel_rfl
theorem vars_of_laid {W : World} (h : laidMetH Tryd.prog Rows.nettextBackRow.laid W) : Vars W := by
  rw [MakeChecks.laidMetH_plain _ _ _ (by kernel_rfl)] at h
  have h2 := (show laidMet Tryd.prog [("math/bits.deBruijn32tab", Rows.laid_math_bits_deBruijn32tab), ("math/bits.deBruijn64tab", Rows.laid_math_bits_deBruijn64tab), ("internal/strconv.uint64pow10", Lib.tabData .u64 Lib.pow10Tab), ("unicode/utf8.acceptRanges", Rows.laid_unicode_utf8_acceptRanges), ("strconv.ErrRange", Rows.laid_strconv_ErrRange), ("strconv.ErrSyntax", Rows.laid_strconv_ErrSyntax), ("unicode/utf8.first", Rows.laid_unicode_utf8_first)] W from h).tail.tail
  have h4 := h2.tail.tail
  have h5 := h4.tail
  refine ⟨?_, ?_, ?_⟩
  · obtain ⟨g, hg⟩ := Option.isSome_iff_exists.1 gPow
    exact Lib.tabIs_of_head hg (by obtain rfl : g = (Tryd.prog.globalNamed "internal/strconv.uint64pow10").get gPow := by simp [hg]
                                   kernel_rfl) Tryd.underlying193 Tryd.underlying170 (by kernel_rfl) (by kernel_rfl) h2
  · obtain ⟨g, hg⟩ := Option.isSome_iff_exists.1 gSyn
    have e : g = (Tryd.prog.globalNamed "strconv.ErrSyntax").get gSyn := by simp [hg]
    have ht : (Tryd.prog.globals[g]?).map (·.type) = some 141 := by rw [e]; kernel_rfl
    obtain ⟨a, _, hv, _⟩ := laid_sentinel (tp := 197) h5 hg ht Tryd.underlying141 rowES Tryd.underlying197 Tryd.underlying199 rfl rfl Tryd.underlying9 cellsES cellsSt
    exact ⟨_, _, hv⟩
  · obtain ⟨g, hg⟩ := Option.isSome_iff_exists.1 gRange
    have e : g = (Tryd.prog.globalNamed "strconv.ErrRange").get gRange := by simp [hg]
    have ht : (Tryd.prog.globals[g]?).map (·.type) = some 141 := by rw [e]; kernel_rfl
    obtain ⟨a, _, hv, _⟩ := laid_sentinel (tp := 197) h4 hg ht Tryd.underlying141 rowES Tryd.underlying197 Tryd.underlying199 rfl rfl Tryd.underlying9 cellsES cellsSt
    exact ⟨_, _, hv⟩
end Go.Proofs.YtglbelmljdgaoaaDoor
