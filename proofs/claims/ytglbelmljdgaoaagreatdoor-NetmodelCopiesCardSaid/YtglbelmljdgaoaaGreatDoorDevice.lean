/- netmodel's checker.device. -/
import Derived.Test.YtglbelmljdgaoaaGreatDoorSeen
import Derived.Test.YtglbelmljdgaoaaGreatDoorShelf
import Derived.Deep.QuietTactic
import Derived.BigQuiet
namespace Go.Proofs.YtglbelmljdgaoaaGreatDoor
open Go.RowKit Go.Maps

abbrev S (s : ByteArray) : Value := .string s
theorem containsS_any (l : List ByteArray) (n : Nat) (A : Option Addr) (c : Nat) (x : ByteArray) (w : World) (B : Nat) (hln : l.length = n) (hr : Reads w B 1 A n (l.map S)) (hl : n ≤ 1000000) :
    Calls Tryz.prog 30 #[.slice A n c, .string x] w fun e w' => e = .returned (.bool (Lib.containsS l x)) ∧ w = w' := by
  subst hln
  by_cases h0 : l.length = 0
  · have : l = [] := List.eq_nil_of_length_eq_zero h0
    subst this
    exact (Tryz.slices_Contains_string_empty A c x w).mono fun e w' ⟨h1, h2⟩ => ⟨by rw [h1]; rfl, h2.symm⟩
  · obtain ⟨b, off, rfl, _, hc⟩ := hr.2 (by omega)
    refine (Tryz.slices_Contains_string b off l.length c l x w (Nat.le_refl _) (by omega) (fun j hj => hc j _ (by simp [hj]))).mono fun e w' ⟨h1, h2⟩ => ⟨by rw [h1, List.take_of_length_le (Nat.le_refl _)], h2.symm⟩

/-- what device does: the error, and the map behind it -/
def RetDev (w : World) (mb : Nat) (r : Int × List ByteArray) (e : Ending) (w' : World) : Prop := e = .returned (I r.1) ∧ SeenMap w' mb r.2 ∧ w.grownBy w' (some mb)

theorem grown_of_below {a w : World} (h : Below a.heap.size a w) (row : Option Nat) : a.grownBy w row := ⟨h.os, h.tape, h.output, h.size, fun i hi _ => h.block i hi⟩
theorem grown_drewN {a w : World} {row : Option Nat} (h : a.grownBy w row) (n : Nat) : a.grownBy (w.drewN n) row := ⟨h.os, h.tape, h.output, h.size, h.block⟩
theorem box_below {w w1 : World} {o : Obj} (h : Below (w.alloc o).heap.size (w.alloc o) w1) : Below w.heap.size w w1 := ((Below.refl _ w).alloc (Nat.le_refl _) _).trans (h.mono (by simp))

set_option maxRecDepth 100000 in
set_option maxHeartbeats 1000000 in
theorem device_bad (nodes seen : List ByteArray) (name : ByteArray) (ends : List ByteArray) (mb : Nat) (NA EA : Option Addr) (nc ec : Nat) (w : World) (hsm : SeenMap w mb seen) (hs : name.size ≤ 9223372036854775807) (hb : nameOk name = false) :
    Calls Tryz.prog 26 #[.agg #[.map (some mb), .slice NA nodes.length nc], .string name, .slice EA ends.length ec] w (RetDev w mb (deviceL nodes seen name ends)) := by
  have HR := Lib.hid (show deviceL nodes seen name ends = (5, seen) by rw [deviceL, if_pos hb])
  go_enter Tryz.func26, Tryz.ntmps26
  go_wp2_with (go_at_call 18; refine (name_any name _ hs).mono ?_; rintro e w1 ⟨rfl, hb1⟩; rw [hb])
  go_ret
  rw [HR.out]
  exact ⟨rfl, hsm.ext (box_below hb1), grown_of_below (box_below hb1) _⟩

set_option maxRecDepth 100000 in
set_option maxHeartbeats 1000000 in
theorem device_twice (nodes seen : List ByteArray) (name : ByteArray) (ends : List ByteArray) (mb : Nat) (NA EA : Option Addr) (nc ec : Nat) (w : World) (hsm : SeenMap w mb seen) (hs : name.size ≤ 9223372036854775807) (hb : nameOk name = true) (hc : Lib.containsS seen name = true) :
    Calls Tryz.prog 26 #[.agg #[.map (some mb), .slice NA nodes.length nc], .string name, .slice EA ends.length ec] w (RetDev w mb (deviceL nodes seen name ends)) := by
  have HR := Lib.hid (show deviceL nodes seen name ends = (7, seen) by rw [deviceL, if_neg (by simp [hb]), if_pos hc])
  go_enter Tryz.func26, Tryz.ntmps26
  go_wp2_with (go_at_call 18; refine (name_any name _ hs).mono ?_; rintro e w1 ⟨rfl, hb1⟩; rw [hb]; have hlk := (hsm.ext (box_below hb1)).lookup name hs; have hbx := (Blk.new w 71 #[.map (some mb), .slice NA nodes.length nc]).below hb1 (by simp); have hc0 := hbx.cell 0; have hc1 := hbx.cell 1)
  go_ret
  rw [HR.out]
  exact ⟨rfl, hsm.ext (box_below hb1), grown_of_below (box_below hb1) _⟩

set_option maxRecDepth 100000 in
set_option maxHeartbeats 1000000 in
theorem device_go (nodes seen : List ByteArray) (name : ByteArray) (ends : List ByteArray) (mb : Nat) (NA EA : Option Addr) (nc ec : Nat) (w : World) (hsm : SeenMap w mb seen) (hs : name.size ≤ 9223372036854775807) (hb : nameOk name = true) (hc : Lib.containsS seen name = false)
    (hN : Reads w w.heap.size 1 NA nodes.length (nodes.map S)) (hE : Reads w w.heap.size 1 EA ends.length (ends.map S)) (hnl : nodes.length ≤ 1000) (hel : ends.length ≤ 2) (hsl : seen.length ≤ 1000) :
    Calls Tryz.prog 26 #[.agg #[.map (some mb), .slice NA nodes.length nc], .string name, .slice EA ends.length ec] w (RetDev w mb (deviceL nodes seen name ends)) := by
  have HN := Lib.hid hN
  have HE := Lib.hid hE
  clear hN hE
  go_enter Tryz.func26, Tryz.ntmps26
  go_wp2_with (go_at_call 18; refine (name_any name _ hs).mono ?_; rintro e w1 ⟨rfl, hb1⟩; rw [hb]; have hlk := (hsm.ext (box_below hb1)).lookup name hs; have hbx := (Blk.new w 71 #[.map (some mb), .slice NA nodes.length nc]).below hb1 (by simp); have hc0 := hbx.cell 0; have hc1 := hbx.cell 1; obtain ⟨w2, hup, hsm2, hg2⟩ := (hsm.ext (box_below hb1)).update name hs (by omega))
  have hsm1 := hsm.ext (box_below hb1)
  have hc1' : w1.cell? ⟨w.heap.size, 1, none⟩ = some (.slice NA nodes.length nc) := by rw [hc1]; rfl
  have hcx : w2.cell? ⟨w.heap.size, 1, none⟩ = some (.slice NA nodes.length nc) := hg2.cell hc1' (fun e => hsm1.ne hc1' (by injection e))
  have HN2 := Lib.hid (hsm1.reads hg2 ((HN.out.below (box_below hb1)).more (box_below hb1).size))
  have HE2 := Lib.hid (hsm1.reads hg2 ((HE.out.below (box_below hb1)).more (box_below hb1).size))
  have HG : Hid (w.grownBy w2 (some mb)) := by
    have h1 := box_below hb1
    exact ⟨hg2.os.trans h1.os, hg2.tape.trans h1.tape, hg2.output.trans h1.output, Nat.le_trans h1.size hg2.size, fun i hi hne => (hg2.block i (Nat.lt_of_lt_of_le hi h1.size) hne).trans (h1.block i hi)⟩
  have HSM := Lib.hid hsm2
  have HD := Lib.hid (show deviceL nodes seen name ends = if (ends.all fun e => Lib.containsS nodes e) = false then (6, name :: seen) else if sameTwo ends = true then (3, name :: seen) else (0, name :: seen) by
    rw [deviceL, if_neg (by simp [hb]), if_neg (by simp [hc])])
  clear hc0 hc1 hc1' hlk hbx hup hsm2 hg2 hsm1 hsm hb1 HN HE
  go_loopg [23] (ends.length - 0) (fun r v wr => ∃ k : Nat, r = ends.length - k ∧ v = I k ∧ k ≤ ends.length ∧ w2 = wr ∧ Hid ((ends.take k).all (fun e => Lib.containsS nodes e) = true))
  case atStart => exact ⟨0, rfl, rfl, by omega, rfl, rfl⟩
  case round =>
    obtain ⟨k, rfl, rfl, hk, rfl, HA⟩ := hrel
    by_cases hlt : k < ends.length
    · obtain ⟨b, off, u, rfl, _, hu, hcu⟩ := HE2.out.at1 hlt
      obtain ⟨x, hx⟩ : ∃ x, ends[k] = x := ⟨_, rfl⟩
      obtain rfl : u = S x := by simp [hlt, hx] at hu; exact hu.symm
      cases hcb : Lib.containsS nodes x
      · have HF := Lib.hid (show (ends.all fun e => Lib.containsS nodes e) = false by
          rw [Bool.eq_false_iff]
          intro h
          have := List.all_eq_true.1 h x (by rw [← hx]; exact List.getElem_mem hlt)
          rw [hcb] at this
          cases this)
        clear hu hx
        go_wp2_with (go_at_call 30; refine (containsS_any nodes _ NA nc x _ _ rfl HN2.out (by omega)).mono ?_; rintro e w' ⟨rfl, rfl⟩; rw [hcb])
        go_ret
        rw [HD.out, if_pos HF.out]
        exact ⟨rfl, HSM.out, HG.out⟩
      · have HA2 := Lib.hid (show (ends.take (k + 1)).all (fun e => Lib.containsS nodes e) = true by
          rw [List.take_succ_eq_append_getElem hlt, List.all_append, HA.out, hx]
          simp [hcb])
        clear hu hx
        go_wp2_with (go_at_call 30; refine (containsS_any nodes _ NA nc x _ _ rfl HN2.out (by omega)).mono ?_; rintro e w' ⟨rfl, rfl⟩; rw [hcb])
        go_roundg (ends.length - (k + 1))
        case measure => omega
        case rel => exact ⟨k + 1, rfl, by go_num, by omega, rfl, HA2⟩
    · have HT := Lib.hid (show (ends.all fun e => Lib.containsS nodes e) = true by
        have := HA.out
        rwa [List.take_of_length_le (by omega)] at this)
      have HD2 := Lib.hid (show deviceL nodes seen name ends = if sameTwo ends = true then (3, name :: seen) else (0, name :: seen) by rw [HD.out, if_neg (by simp [HT.out])])
      clear HD HA HT
      match ends, hel with
      | [], _ =>
        have HD3 := Lib.hid (show deviceL nodes seen name [] = (0, name :: seen) by rw [HD2.out]; rfl)
        have t2 : (((0 : Nat) : Int) == 2) = false := by decide
        simp only [List.length_nil]
        go_wp2
        go_quiet (fail)
        go_wp2
        go_ret
        rw [HD3.out]
        exact ⟨rfl, HSM.out, grown_drewN HG.out _⟩
      | [a], _ =>
        have HD3 := Lib.hid (show deviceL nodes seen name [a] = (0, name :: seen) by rw [HD2.out]; rfl)
        simp only [List.length_cons, List.length_nil]
        have hk1 : (1 : Nat) ≤ k := by simp only [List.length_cons, List.length_nil] at hlt; omega
        go_wp2
        go_quiet (fail)
        go_wp2
        go_ret
        rw [HD3.out]
        exact ⟨rfl, HSM.out, grown_drewN HG.out _⟩
      | [a, b], _ =>
        have hk1 : (2 : Nat) ≤ k := by simp only [List.length_cons, List.length_nil] at hlt; omega
        obtain ⟨eb, eo, hEA, _, hce⟩ := HE2.out.2 (by simp)
        have hca := hce 0 (S a) rfl
        have hcb := hce 1 (S b) rfl
        subst hEA
        simp only [Nat.add_zero] at hca
        clear hce
        by_cases hab : a = b
        · have HD3 := Lib.hid (show deviceL nodes seen name [a, b] = (3, name :: seen) by rw [HD2.out, if_pos (by simp [sameTwo, hab])])
          subst hab
          simp only [List.length_cons, List.length_nil]
          go_wp2
          go_quiet (fail)
          go_wp2
          go_ret
          rw [HD3.out]
          exact ⟨rfl, HSM.out, grown_drewN HG.out _⟩
        · have HD3 := Lib.hid (show deviceL nodes seen name [a, b] = (0, name :: seen) by rw [HD2.out, if_neg (by simp [sameTwo, hab])])
          have tab : (a.toList == b.toList) = false := (Lib.bytes_beq_false_iff a b).2 hab
          simp only [List.length_cons, List.length_nil]
          clear hab
          go_wp2
          go_quiet (fail)
          go_wp2
          go_ret
          rw [HD3.out]
          exact ⟨rfl, HSM.out, grown_drewN HG.out _⟩

theorem device_any (nodes seen : List ByteArray) (name : ByteArray) (ends : List ByteArray) (mb : Nat) (NA EA : Option Addr) (nc ec : Nat) (w : World) (hsm : SeenMap w mb seen) (hs : name.size ≤ 9223372036854775807)
    (hN : Reads w w.heap.size 1 NA nodes.length (nodes.map S)) (hE : Reads w w.heap.size 1 EA ends.length (ends.map S)) (hnl : nodes.length ≤ 1000) (hel : ends.length ≤ 2) (hsl : seen.length ≤ 1000) :
    Calls Tryz.prog 26 #[.agg #[.map (some mb), .slice NA nodes.length nc], .string name, .slice EA ends.length ec] w (RetDev w mb (deviceL nodes seen name ends)) := by
  cases hb : nameOk name
  · exact device_bad nodes seen name ends mb NA EA nc ec w hsm hs hb
  · cases hc : Lib.containsS seen name
    · exact device_go nodes seen name ends mb NA EA nc ec w hsm hs hb hc hN hE hnl hel hsl
    · exact device_twice nodes seen name ends mb NA EA nc ec w hsm hs hb hc
end Go.Proofs.YtglbelmljdgaoaaGreatDoor
