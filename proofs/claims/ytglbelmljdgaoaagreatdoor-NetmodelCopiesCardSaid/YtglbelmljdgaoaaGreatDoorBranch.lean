/- netmodel.permitted and netmodel.Branch. -/
import Derived.Test.YtglbelmljdgaoaaGreatDoorName
namespace Go.Proofs.YtglbelmljdgaoaaGreatDoor
open Go.RowKit

set_option maxRecDepth 100000 in
set_option maxHeartbeats 400000 in
theorem permitted_any (n : Int) (w : World) : Calls Tryz.prog 45 #[I n] w fun e w' => e = .returned (.bool (!outB n 0 100000)) ∧ w = w' := by
  go_enter Tryz.func45, Tryz.ntmps45
  go_wp2_with (go_at_call 40; refine (out_any n 0 100000 _).mono ?_; rintro e w' ⟨rfl, rfl⟩)
  go_ret
  exact ⟨rfl, rfl⟩

/-- the error of a branch -/
def branchE (b : BranchD) : Int := if branchOk b = true then 0 else 4
def BranchD.val (b : BranchD) : Value := .agg #[.string b.name, .string b.src, .string b.dst, I b.x, I b.tap, I b.shift, I b.limit, I b.short, I b.hold]

set_option maxRecDepth 100000 in
set_option maxHeartbeats 1000000 in
theorem branch_any (b : BranchD) (w : World) : Calls Tryz.prog 19 #[b.val] w fun e w' => e = .returned (I (branchE b)) ∧ Below w.heap.size w w' := by
  have HD := Lib.hid (show branchOk b = !(outB b.x 1 10000 || outB b.tap 500 1500 || outB b.shift (-1000) 1000 || outB b.limit 0 100000 || outB b.short b.limit 100000 || outB b.hold 0 200000) from rfl)
  unfold BranchD.val
  cases h0 : outB b.x 1 10000
  case true =>
    have HR := Lib.hid (show branchOk b = false by rw [HD.out, h0]; simp)
    go_enter Tryz.func19, Tryz.ntmps19
    go_wp2_with fail
    refine (out_any b.x 1 10000 _).mono ?_
    rintro e w' ⟨rfl, rfl⟩
    rw [h0]
    go_wp2
    go_ret
    exact ⟨ret_int (by rw [branchE, HR.out]; rfl), (Below.refl _ _).alloc (Nat.le_refl _) _⟩
  case false =>
    cases h1 : outB b.tap 500 1500
    case true =>
      have HR := Lib.hid (show branchOk b = false by rw [HD.out, h0, h1]; simp)
      go_enter Tryz.func19, Tryz.ntmps19
      go_wp2_with fail
      refine (out_any b.x 1 10000 _).mono ?_
      rintro e w' ⟨rfl, rfl⟩
      rw [h0]
      go_wp2_with fail
      refine (out_any b.tap 500 1500 _).mono ?_
      rintro e w' ⟨rfl, rfl⟩
      rw [h1]
      go_wp2
      go_ret
      exact ⟨ret_int (by rw [branchE, HR.out]; rfl), (Below.refl _ _).alloc (Nat.le_refl _) _⟩
    case false =>
      cases h2 : outB b.shift (-1000) 1000
      case true =>
        have HR := Lib.hid (show branchOk b = false by rw [HD.out, h0, h1, h2]; simp)
        go_enter Tryz.func19, Tryz.ntmps19
        go_wp2_with fail
        refine (out_any b.x 1 10000 _).mono ?_
        rintro e w' ⟨rfl, rfl⟩
        rw [h0]
        go_wp2_with fail
        refine (out_any b.tap 500 1500 _).mono ?_
        rintro e w' ⟨rfl, rfl⟩
        rw [h1]
        go_wp2_with fail
        refine (out_any b.shift (-1000) 1000 _).mono ?_
        rintro e w' ⟨rfl, rfl⟩
        rw [h2]
        go_wp2
        go_ret
        exact ⟨ret_int (by rw [branchE, HR.out]; rfl), (Below.refl _ _).alloc (Nat.le_refl _) _⟩
      case false =>
        cases h3 : outB b.limit 0 100000
        case true =>
          have HR := Lib.hid (show branchOk b = false by rw [HD.out, h0, h1, h2, h3]; simp)
          go_enter Tryz.func19, Tryz.ntmps19
          go_wp2_with fail
          refine (out_any b.x 1 10000 _).mono ?_
          rintro e w' ⟨rfl, rfl⟩
          rw [h0]
          go_wp2_with fail
          refine (out_any b.tap 500 1500 _).mono ?_
          rintro e w' ⟨rfl, rfl⟩
          rw [h1]
          go_wp2_with fail
          refine (out_any b.shift (-1000) 1000 _).mono ?_
          rintro e w' ⟨rfl, rfl⟩
          rw [h2]
          go_wp2_with fail
          refine (out_any b.limit 0 100000 _).mono ?_
          rintro e w' ⟨rfl, rfl⟩
          rw [h3]
          go_wp2
          go_ret
          exact ⟨ret_int (by rw [branchE, HR.out]; rfl), (Below.refl _ _).alloc (Nat.le_refl _) _⟩
        case false =>
          cases h4 : outB b.short b.limit 100000
          case true =>
            have HR := Lib.hid (show branchOk b = false by rw [HD.out, h0, h1, h2, h3, h4]; simp)
            go_enter Tryz.func19, Tryz.ntmps19
            go_wp2_with fail
            refine (out_any b.x 1 10000 _).mono ?_
            rintro e w' ⟨rfl, rfl⟩
            rw [h0]
            go_wp2_with fail
            refine (out_any b.tap 500 1500 _).mono ?_
            rintro e w' ⟨rfl, rfl⟩
            rw [h1]
            go_wp2_with fail
            refine (out_any b.shift (-1000) 1000 _).mono ?_
            rintro e w' ⟨rfl, rfl⟩
            rw [h2]
            go_wp2_with fail
            refine (out_any b.limit 0 100000 _).mono ?_
            rintro e w' ⟨rfl, rfl⟩
            rw [h3]
            go_wp2_with fail
            refine (out_any b.short b.limit 100000 _).mono ?_
            rintro e w' ⟨rfl, rfl⟩
            rw [h4]
            go_wp2
            go_ret
            exact ⟨ret_int (by rw [branchE, HR.out]; rfl), (Below.refl _ _).alloc (Nat.le_refl _) _⟩
          case false =>
            cases h5 : outB b.hold 0 200000
            case true =>
              have HR := Lib.hid (show branchOk b = false by rw [HD.out, h0, h1, h2, h3, h4, h5]; simp)
              go_enter Tryz.func19, Tryz.ntmps19
              go_wp2_with fail
              refine (out_any b.x 1 10000 _).mono ?_
              rintro e w' ⟨rfl, rfl⟩
              rw [h0]
              go_wp2_with fail
              refine (out_any b.tap 500 1500 _).mono ?_
              rintro e w' ⟨rfl, rfl⟩
              rw [h1]
              go_wp2_with fail
              refine (out_any b.shift (-1000) 1000 _).mono ?_
              rintro e w' ⟨rfl, rfl⟩
              rw [h2]
              go_wp2_with fail
              refine (out_any b.limit 0 100000 _).mono ?_
              rintro e w' ⟨rfl, rfl⟩
              rw [h3]
              go_wp2_with fail
              refine (out_any b.short b.limit 100000 _).mono ?_
              rintro e w' ⟨rfl, rfl⟩
              rw [h4]
              go_wp2_with fail
              refine (out_any b.hold 0 200000 _).mono ?_
              rintro e w' ⟨rfl, rfl⟩
              rw [h5]
              go_wp2
              go_ret
              exact ⟨ret_int (by rw [branchE, HR.out]; rfl), (Below.refl _ _).alloc (Nat.le_refl _) _⟩
            case false =>
              have HR := Lib.hid (show branchOk b = true by rw [HD.out, h0, h1, h2, h3, h4, h5]; simp)
              go_enter Tryz.func19, Tryz.ntmps19
              go_wp2_with fail
              refine (out_any b.x 1 10000 _).mono ?_
              rintro e w' ⟨rfl, rfl⟩
              rw [h0]
              go_wp2_with fail
              refine (out_any b.tap 500 1500 _).mono ?_
              rintro e w' ⟨rfl, rfl⟩
              rw [h1]
              go_wp2_with fail
              refine (out_any b.shift (-1000) 1000 _).mono ?_
              rintro e w' ⟨rfl, rfl⟩
              rw [h2]
              go_wp2_with fail
              refine (out_any b.limit 0 100000 _).mono ?_
              rintro e w' ⟨rfl, rfl⟩
              rw [h3]
              go_wp2_with fail
              refine (out_any b.short b.limit 100000 _).mono ?_
              rintro e w' ⟨rfl, rfl⟩
              rw [h4]
              go_wp2_with fail
              refine (out_any b.hold 0 200000 _).mono ?_
              rintro e w' ⟨rfl, rfl⟩
              rw [h5]
              go_wp2
              go_ret
              exact ⟨ret_int (by rw [branchE, HR.out]; rfl), (Below.refl _ _).alloc (Nat.le_refl _) _⟩
end Go.Proofs.YtglbelmljdgaoaaGreatDoor
