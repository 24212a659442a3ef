/- The walks of Sum and Least at the keep's lists, and of ratFact. -/
import Derived.Test.YtpbdlmjfjkfphaaGreatDoorRInt
import Derived.LoopN
namespace Go.Proofs.YtpbdlmjfjkfphaaGreatDoor
open Go.RowKit

structure C3 (w : World) (b : Nat) (u0 u1 u2 : Value) : Prop where
  c0 : w.cell? ⟨b, 0, none⟩ = some u0
  c1 : w.cell? ⟨b, 1, none⟩ = some u1
  c2 : w.cell? ⟨b, 2, none⟩ = some u2
theorem C3.below {w w' : World} {b : Nat} {u0 u1 u2 : Value} (h : C3 w b u0 u1 u2) (hb : Below w.heap.size w w') : C3 w' b u0 u1 u2 := by
  have hl := World.block_lt_of_cell? w ⟨b, 0, none⟩ h.c0
  exact ⟨(hb.cell (p := ⟨b, 0, none⟩) hl).trans h.c0, (hb.cell (p := ⟨b, 1, none⟩) hl).trans h.c1, (hb.cell (p := ⟨b, 2, none⟩) hl).trans h.c2⟩
theorem C3.drew {w : World} {b : Nat} {u0 u1 u2 : Value} (h : C3 w b u0 u1 u2) : C3 w.drew b u0 u1 u2 := ⟨h.c0, h.c1, h.c2⟩
theorem Reads.c3 {w : World} {b : Nat} {u0 u1 u2 : Value} (h : Reads w w.heap.size 1 (some ⟨b, 0, none⟩) 3 [u0, u1, u2]) : C3 w b u0 u1 u2 := by
  obtain ⟨b', o', e, _, hc⟩ := h.2 (by decide)
  have e := Option.some.inj e
  injection e with e1 e2
  subst e1 e2
  exact ⟨hc 0 _ rfl, hc 1 _ rfl, hc 2 _ rfl⟩
theorem all3 {K : Nat} {a b c : ByteArray} (ha : a.size ≤ K) (hb : b.size ≤ K) (hc : c.size ≤ K) : ∀ s ∈ [a, b, c], s.size ≤ K := fun s hs => by
  simp only [List.mem_cons, List.not_mem_nil, or_false] at hs
  rcases hs with rfl | rfl | rfl <;> assumption
theorem sfact0 : ratAdd (SL (⟨#[48]⟩)) (SL (⟨#[49, 47, 50]⟩)) = ([49, 47, 50], 0) := by decide +kernel
theorem sfact1 : ratAdd (SL (⟨#[49, 47, 50]⟩)) (SL (⟨#[49, 47, 51]⟩)) = ([53, 47, 54], 0) := by decide +kernel
theorem sfact2 : ratAdd (SL (⟨#[53, 47, 54]⟩)) (SL (⟨#[49, 47, 54]⟩)) = ([49], 0) := by decide +kernel
theorem sall : rAll ([(⟨#[49, 47, 50]⟩ : ByteArray), ⟨#[49, 47, 51]⟩, ⟨#[49, 47, 54]⟩].map SL) = 0 := by decide +kernel
set_option maxRecDepth 100000 in
set_option maxHeartbeats 2000000 in
theorem sum_fact (b c : Nat) (w : World) (hr : Reads w w.heap.size 1 (some ⟨b, 0, none⟩) 3 ([(⟨#[49, 47, 50]⟩ : ByteArray), ⟨#[49, 47, 51]⟩, ⟨#[49, 47, 54]⟩].map Sv)) (htab : Tab w) :
    Calls Tryz.prog 22 #[.slice (some ⟨b, 0, none⟩) 3 c] w fun e w' => e = .returned (.tuple #[.string ⟨#[49]⟩, I 0]) ∧ Below w.heap.size w w' := by
  have HA := Lib.hid (rall_any [⟨#[49, 47, 50]⟩, ⟨#[49, 47, 51]⟩, ⟨#[49, 47, 54]⟩] 3 (some ⟨b, 0, none⟩) c w hr (by omega) (all3 (by decide) (by decide) (by decide)) htab)
  rw [sall] at HA
  have C := Lib.hid hr.c3
  have HTB := Lib.hid htab
  clear hr htab
  go_enter Tryz.func22, Tryz.ntmps22
  go_wp2_with fail
  refine HA.out.mono ?_
  rintro e w1 ⟨rfl, hb⟩
  have HB1 := Lib.hid hb
  have C1 := Lib.hid (C.out.below hb)
  clear hb HA C
  have c0 := C1.out.c0
  go_wp2
  refine wp_loop_rounds 4 ?_
  rw [rounds_succ]
  go_wp2_with fail
  refine (ratAdd_any ⟨#[48]⟩ ⟨#[49, 47, 50]⟩ w1 (by decide) (by decide) (tab_below HTB.out HB1.out)).mono ?_
  rintro e w2 ⟨rfl, hb⟩
  rw [sfact0]
  have HB2 := Lib.hid (HB1.out.trans (hb.mono HB1.out.size))
  have C2 := Lib.hid (C1.out.below hb)
  clear hb HB1 C1 c0
  have c1 := C2.out.c1
  go_wp2
  rw [rounds_succ]
  go_wp2_with fail
  refine (ratAdd_any ⟨#[49, 47, 50]⟩ ⟨#[49, 47, 51]⟩ w2 (by decide) (by decide) (tab_below HTB.out HB2.out)).mono ?_
  rintro e w3 ⟨rfl, hb⟩
  rw [sfact1]
  have HB3 := Lib.hid (HB2.out.trans (hb.mono HB2.out.size))
  have C3 := Lib.hid (C2.out.below hb)
  clear hb HB2 C2 c1
  have c2 := C3.out.c2
  go_wp2
  rw [rounds_succ]
  go_wp2_with fail
  refine (ratAdd_any ⟨#[53, 47, 54]⟩ ⟨#[49, 47, 54]⟩ w3 (by decide) (by decide) (tab_below HTB.out HB3.out)).mono ?_
  rintro e w4 ⟨rfl, hb⟩
  rw [sfact2]
  have HB4 := Lib.hid (HB3.out.trans (hb.mono HB3.out.size))
  have C4 := Lib.hid (C3.out.below hb)
  clear hb HB3 C3 c2
  go_wp2
  rw [rounds_succ]
  go_wp2
  go_ret2
  exact ⟨rfl, HB4.out⟩
theorem lfact0 : ratCmp (SL (⟨#[50]⟩)) (SL (⟨#[50]⟩)) = (0, 0) := by decide +kernel
theorem lfact1 : ratCmp (SL (⟨#[49]⟩)) (SL (⟨#[50]⟩)) = (-1, 0) := by decide +kernel
theorem lfact2 : ratCmp (SL (⟨#[49]⟩)) (SL (⟨#[49]⟩)) = (0, 0) := by decide +kernel
theorem lall : rAll ([(⟨#[50]⟩ : ByteArray), ⟨#[49]⟩, ⟨#[49]⟩].map SL) = 0 := by decide +kernel
set_option maxRecDepth 100000 in
set_option maxHeartbeats 4000000 in
theorem least_fact (b c : Nat) (w : World) (hr : Reads w w.heap.size 1 (some ⟨b, 0, none⟩) 3 ([(⟨#[50]⟩ : ByteArray), ⟨#[49]⟩, ⟨#[49]⟩].map Sv)) (htab : Tab w) :
    Calls Tryz.prog 23 #[.slice (some ⟨b, 0, none⟩) 3 c] w fun e w' => e = .returned (.tuple #[I 1, I 0]) ∧ Below w.heap.size w w' := by
  have HA := Lib.hid (rall_any [⟨#[50]⟩, ⟨#[49]⟩, ⟨#[49]⟩] 3 (some ⟨b, 0, none⟩) c w hr (by omega) (all3 (by decide) (by decide) (by decide)) htab)
  rw [lall] at HA
  have C := Lib.hid hr.c3
  have HTB := Lib.hid htab
  clear hr htab
  go_enter Tryz.func23, Tryz.ntmps23
  go_wp2_with fail
  refine HA.out.mono ?_
  rintro e w1 ⟨rfl, hb⟩
  have HB1 := Lib.hid hb
  have C1 := Lib.hid (C.out.below hb)
  clear hb HA C
  go_wp2
  refine wp_loop_rounds 4 ?_
  rw [rounds_succ]
  go_upto_region 12 with fail
  have D1 := Lib.hid C1.out.drew
  have HD1 := Lib.hid (show Below w.heap.size w w1.drew from HB1.out.drew)
  refine wp_region_c (fun w' => w'.cell? ⟨b, 0, none⟩ = some (.string ⟨#[50]⟩) ∧ w'.cell? ⟨b, 1, none⟩ = some (.string ⟨#[49]⟩) ∧ w'.cell? ⟨b, 2, none⟩ = some (.string ⟨#[49]⟩)) 13 (by kernel_rfl) ?_
  refine wpAnyC_take8 (i := 0) (oi := _) (v := .slice (some ⟨b, 0, none⟩) 3 c) rfl (by kernel_rfl) (by kernel_rfl) (by kernel_rfl) (by kernel_rfl) (by kernel_rfl) (by kernel_rfl) (fun _ _ _ h => h) (Or.inl ⟨by rfl, ?_⟩) ⟨D1.out.c0, D1.out.c1, D1.out.c2⟩ ?_
  · intro w hSw
    obtain ⟨s0, s1, s2⟩ := hSw
    go_simp
  try simp only [Act.put, List.setIfInBounds_toArray]
  refine wpAnyC_take8 (i := 1) (oi := _) (v := I 0) rfl (by kernel_rfl) (by kernel_rfl) (by kernel_rfl) (by kernel_rfl) (by kernel_rfl) (by kernel_rfl) (fun _ _ _ h => h) (Or.inl ⟨by rfl, ?_⟩) ⟨D1.out.c0, D1.out.c1, D1.out.c2⟩ ?_
  · intro w hSw
    obtain ⟨s0, s1, s2⟩ := hSw
    go_simp
  try simp only [Act.put]
  refine wpAnyC_take8 (i := 2) (oi := _) (v := .pointer (some ⟨b, 0, none⟩)) rfl (by kernel_rfl) (by kernel_rfl) (by kernel_rfl) (by kernel_rfl) (by kernel_rfl) (by kernel_rfl) (fun _ _ _ h => h) (Or.inl ⟨by rfl, ?_⟩) ⟨D1.out.c0, D1.out.c1, D1.out.c2⟩ ?_
  · intro w hSw
    obtain ⟨s0, s1, s2⟩ := hSw
    go_simp
  try simp only [Act.put]
  refine wpAnyC_take8 (i := 3) (oi := _) (v := .string ⟨#[50]⟩) rfl (by kernel_rfl) (by kernel_rfl) (by kernel_rfl) (by kernel_rfl) (by kernel_rfl) (by kernel_rfl) (fun _ _ _ h => h) (Or.inl ⟨by rfl, ?_⟩) ⟨D1.out.c0, D1.out.c1, D1.out.c2⟩ ?_
  · intro w hSw
    obtain ⟨s0, s1, s2⟩ := hSw
    go_simp
  try simp only [Act.put]
  refine wpAnyC_take8 (i := 4) (oi := _) (v := .slice (some ⟨b, 0, none⟩) 3 c) rfl (by kernel_rfl) (by kernel_rfl) (by kernel_rfl) (by kernel_rfl) (by kernel_rfl) (by kernel_rfl) (fun _ _ _ h => h) (Or.inl ⟨by rfl, ?_⟩) ⟨D1.out.c0, D1.out.c1, D1.out.c2⟩ ?_
  · intro w hSw
    obtain ⟨s0, s1, s2⟩ := hSw
    go_simp
  try simp only [Act.put]
  refine wpAnyC_take8 (i := 5) (oi := _) (v := I 0) rfl (by kernel_rfl) (by kernel_rfl) (by kernel_rfl) (by kernel_rfl) (by kernel_rfl) (by kernel_rfl) (fun _ _ _ h => h) (Or.inl ⟨by rfl, ?_⟩) ⟨D1.out.c0, D1.out.c1, D1.out.c2⟩ ?_
  · intro w hSw
    obtain ⟨s0, s1, s2⟩ := hSw
    go_simp
  try simp only [Act.put]
  refine wpAnyC_take8 (i := 6) (oi := _) (v := .pointer (some ⟨b, 0, none⟩)) rfl (by kernel_rfl) (by kernel_rfl) (by kernel_rfl) (by kernel_rfl) (by kernel_rfl) (by kernel_rfl) (fun _ _ _ h => h) (Or.inl ⟨by rfl, ?_⟩) ⟨D1.out.c0, D1.out.c1, D1.out.c2⟩ ?_
  · intro w hSw
    obtain ⟨s0, s1, s2⟩ := hSw
    go_simp
  try simp only [Act.put]
  refine wpAnyC_take8 (i := 7) (oi := _) (v := .string ⟨#[50]⟩) rfl (by kernel_rfl) (by kernel_rfl) (by kernel_rfl) (by kernel_rfl) (by kernel_rfl) (by kernel_rfl) (fun _ _ _ h => h) (Or.inl ⟨by rfl, ?_⟩) ⟨D1.out.c0, D1.out.c1, D1.out.c2⟩ ?_
  · intro w hSw
    obtain ⟨s0, s1, s2⟩ := hSw
    go_simp
  try simp only [Act.put]
  refine wpAnyC_one (i := 8) (by kernel_rfl) rfl (fun K hK => ?_)
  go_simp
  go_at_call 13
  refine (ratCmp_any ⟨#[50]⟩ ⟨#[50]⟩ w1.drew (by decide) (by decide) (tab_below HTB.out HD1.out)).mono ?_
  rintro e w2 ⟨rfl, hb⟩
  rw [lfact0]
  have HB2 := Lib.hid (HD1.out.trans (hb.mono HD1.out.size))
  have C2 := Lib.hid (D1.out.below hb)
  refine hK.out _ _ (fun _ => ⟨C2.out.c0, C2.out.c1, C2.out.c2⟩) ?_
  clear hK K hb HB1 C1 D1 HD1
  refine wpAnyC_one (i := 9) (by kernel_rfl) rfl (fun K hK => ?_)
  go_simp
  refine hK.out _ _ (fun _ => ⟨C2.out.c0, C2.out.c1, C2.out.c2⟩) ?_
  clear hK K
  try simp only [Act.put, List.setIfInBounds_toArray, List.set_cons_zero, List.set_cons_succ]
  refine wpAnyC_take8 (i := 10) (oi := _) (v := I (0)) rfl (by kernel_rfl) (by kernel_rfl) (by kernel_rfl) (by kernel_rfl) (by kernel_rfl) (by kernel_rfl) (fun _ _ _ h => h) (Or.inl ⟨by rfl, ?_⟩) ⟨C2.out.c0, C2.out.c1, C2.out.c2⟩ ?_
  · intro w hSw
    obtain ⟨s0, s1, s2⟩ := hSw
    go_simp
  try simp only [Act.put, List.setIfInBounds_toArray]
  refine wpAnyC_take8 (i := 11) (oi := _) (v := I 0) rfl (by kernel_rfl) (by kernel_rfl) (by kernel_rfl) (by kernel_rfl) (by kernel_rfl) (by kernel_rfl) (fun _ _ _ h => h) (Or.inl ⟨by rfl, ?_⟩) ⟨C2.out.c0, C2.out.c1, C2.out.c2⟩ ?_
  · intro w hSw
    obtain ⟨s0, s1, s2⟩ := hSw
    go_simp
  try simp only [Act.put]
  refine wpAnyC_one (i := 12) (by kernel_rfl) rfl (fun K hK => ?_)
  go_simp
  refine hK.out _ _ (fun _ => ⟨C2.out.c0, C2.out.c1, C2.out.c2⟩) ?_
  clear hK K
  try simp only [Act.put, List.setIfInBounds_toArray, List.set_cons_zero, List.set_cons_succ]
  refine wpAnyC_one (i := 13) (by kernel_rfl) rfl (fun K hK => ?_)
  go_simp
  refine hK.out _ _ (fun h => absurd h (by decide)) ?_
  clear hK K
  refine wpAnyC_done (by kernel_rfl) ?_ _
  go_wp2
  rw [rounds_succ]
  go_upto_region 12 with fail
  have D2 := Lib.hid C2.out.drew
  have HD2 := Lib.hid (show Below w.heap.size w w2.drew from HB2.out.drew)
  refine wp_region_c (fun w' => w'.cell? ⟨b, 0, none⟩ = some (.string ⟨#[50]⟩) ∧ w'.cell? ⟨b, 1, none⟩ = some (.string ⟨#[49]⟩) ∧ w'.cell? ⟨b, 2, none⟩ = some (.string ⟨#[49]⟩)) 13 (by kernel_rfl) ?_
  refine wpAnyC_take8 (i := 0) (oi := _) (v := .slice (some ⟨b, 0, none⟩) 3 c) rfl (by kernel_rfl) (by kernel_rfl) (by kernel_rfl) (by kernel_rfl) (by kernel_rfl) (by kernel_rfl) (fun _ _ _ h => h) (Or.inl ⟨by rfl, ?_⟩) ⟨D2.out.c0, D2.out.c1, D2.out.c2⟩ ?_
  · intro w hSw
    obtain ⟨s0, s1, s2⟩ := hSw
    go_simp
  try simp only [Act.put, List.setIfInBounds_toArray]
  refine wpAnyC_take8 (i := 1) (oi := _) (v := I 1) rfl (by kernel_rfl) (by kernel_rfl) (by kernel_rfl) (by kernel_rfl) (by kernel_rfl) (by kernel_rfl) (fun _ _ _ h => h) (Or.inl ⟨by rfl, ?_⟩) ⟨D2.out.c0, D2.out.c1, D2.out.c2⟩ ?_
  · intro w hSw
    obtain ⟨s0, s1, s2⟩ := hSw
    go_simp
  try simp only [Act.put]
  refine wpAnyC_take8 (i := 2) (oi := _) (v := .pointer (some ⟨b, 1, none⟩)) rfl (by kernel_rfl) (by kernel_rfl) (by kernel_rfl) (by kernel_rfl) (by kernel_rfl) (by kernel_rfl) (fun _ _ _ h => h) (Or.inl ⟨by rfl, ?_⟩) ⟨D2.out.c0, D2.out.c1, D2.out.c2⟩ ?_
  · intro w hSw
    obtain ⟨s0, s1, s2⟩ := hSw
    go_simp
  try simp only [Act.put]
  refine wpAnyC_take8 (i := 3) (oi := _) (v := .string ⟨#[49]⟩) rfl (by kernel_rfl) (by kernel_rfl) (by kernel_rfl) (by kernel_rfl) (by kernel_rfl) (by kernel_rfl) (fun _ _ _ h => h) (Or.inl ⟨by rfl, ?_⟩) ⟨D2.out.c0, D2.out.c1, D2.out.c2⟩ ?_
  · intro w hSw
    obtain ⟨s0, s1, s2⟩ := hSw
    go_simp
  try simp only [Act.put]
  refine wpAnyC_take8 (i := 4) (oi := _) (v := .slice (some ⟨b, 0, none⟩) 3 c) rfl (by kernel_rfl) (by kernel_rfl) (by kernel_rfl) (by kernel_rfl) (by kernel_rfl) (by kernel_rfl) (fun _ _ _ h => h) (Or.inl ⟨by rfl, ?_⟩) ⟨D2.out.c0, D2.out.c1, D2.out.c2⟩ ?_
  · intro w hSw
    obtain ⟨s0, s1, s2⟩ := hSw
    go_simp
  try simp only [Act.put]
  refine wpAnyC_take8 (i := 5) (oi := _) (v := I 0) rfl (by kernel_rfl) (by kernel_rfl) (by kernel_rfl) (by kernel_rfl) (by kernel_rfl) (by kernel_rfl) (fun _ _ _ h => h) (Or.inl ⟨by rfl, ?_⟩) ⟨D2.out.c0, D2.out.c1, D2.out.c2⟩ ?_
  · intro w hSw
    obtain ⟨s0, s1, s2⟩ := hSw
    go_simp
  try simp only [Act.put]
  refine wpAnyC_take8 (i := 6) (oi := _) (v := .pointer (some ⟨b, 0, none⟩)) rfl (by kernel_rfl) (by kernel_rfl) (by kernel_rfl) (by kernel_rfl) (by kernel_rfl) (by kernel_rfl) (fun _ _ _ h => h) (Or.inl ⟨by rfl, ?_⟩) ⟨D2.out.c0, D2.out.c1, D2.out.c2⟩ ?_
  · intro w hSw
    obtain ⟨s0, s1, s2⟩ := hSw
    go_simp
  try simp only [Act.put]
  refine wpAnyC_take8 (i := 7) (oi := _) (v := .string ⟨#[50]⟩) rfl (by kernel_rfl) (by kernel_rfl) (by kernel_rfl) (by kernel_rfl) (by kernel_rfl) (by kernel_rfl) (fun _ _ _ h => h) (Or.inl ⟨by rfl, ?_⟩) ⟨D2.out.c0, D2.out.c1, D2.out.c2⟩ ?_
  · intro w hSw
    obtain ⟨s0, s1, s2⟩ := hSw
    go_simp
  try simp only [Act.put]
  refine wpAnyC_one (i := 8) (by kernel_rfl) rfl (fun K hK => ?_)
  go_simp
  go_at_call 13
  refine (ratCmp_any ⟨#[49]⟩ ⟨#[50]⟩ w2.drew (by decide) (by decide) (tab_below HTB.out HD2.out)).mono ?_
  rintro e w3 ⟨rfl, hb⟩
  rw [lfact1]
  have HB3 := Lib.hid (HD2.out.trans (hb.mono HD2.out.size))
  have C3 := Lib.hid (D2.out.below hb)
  refine hK.out _ _ (fun _ => ⟨C3.out.c0, C3.out.c1, C3.out.c2⟩) ?_
  clear hK K hb HB2 C2 D2 HD2
  refine wpAnyC_one (i := 9) (by kernel_rfl) rfl (fun K hK => ?_)
  go_simp
  refine hK.out _ _ (fun _ => ⟨C3.out.c0, C3.out.c1, C3.out.c2⟩) ?_
  clear hK K
  try simp only [Act.put, List.setIfInBounds_toArray, List.set_cons_zero, List.set_cons_succ]
  refine wpAnyC_take8 (i := 10) (oi := _) (v := I (-1)) rfl (by kernel_rfl) (by kernel_rfl) (by kernel_rfl) (by kernel_rfl) (by kernel_rfl) (by kernel_rfl) (fun _ _ _ h => h) (Or.inl ⟨by rfl, ?_⟩) ⟨C3.out.c0, C3.out.c1, C3.out.c2⟩ ?_
  · intro w hSw
    obtain ⟨s0, s1, s2⟩ := hSw
    go_simp
  try simp only [Act.put, List.setIfInBounds_toArray]
  refine wpAnyC_take8 (i := 11) (oi := _) (v := I 0) rfl (by kernel_rfl) (by kernel_rfl) (by kernel_rfl) (by kernel_rfl) (by kernel_rfl) (by kernel_rfl) (fun _ _ _ h => h) (Or.inl ⟨by rfl, ?_⟩) ⟨C3.out.c0, C3.out.c1, C3.out.c2⟩ ?_
  · intro w hSw
    obtain ⟨s0, s1, s2⟩ := hSw
    go_simp
  try simp only [Act.put]
  refine wpAnyC_one (i := 12) (by kernel_rfl) rfl (fun K hK => ?_)
  go_simp
  refine hK.out _ _ (fun _ => ⟨C3.out.c0, C3.out.c1, C3.out.c2⟩) ?_
  clear hK K
  try simp only [Act.put, List.setIfInBounds_toArray, List.set_cons_zero, List.set_cons_succ]
  refine wpAnyC_one (i := 13) (by kernel_rfl) rfl (fun K hK => ?_)
  go_simp
  refine hK.out _ _ (fun h => absurd h (by decide)) ?_
  clear hK K
  refine wpAnyC_done (by kernel_rfl) ?_ _
  go_wp2
  rw [rounds_succ]
  go_upto_region 12 with fail
  have D3 := Lib.hid C3.out.drew
  have HD3 := Lib.hid (show Below w.heap.size w w3.drew from HB3.out.drew)
  refine wp_region_c (fun w' => w'.cell? ⟨b, 0, none⟩ = some (.string ⟨#[50]⟩) ∧ w'.cell? ⟨b, 1, none⟩ = some (.string ⟨#[49]⟩) ∧ w'.cell? ⟨b, 2, none⟩ = some (.string ⟨#[49]⟩)) 13 (by kernel_rfl) ?_
  refine wpAnyC_take8 (i := 0) (oi := _) (v := .slice (some ⟨b, 0, none⟩) 3 c) rfl (by kernel_rfl) (by kernel_rfl) (by kernel_rfl) (by kernel_rfl) (by kernel_rfl) (by kernel_rfl) (fun _ _ _ h => h) (Or.inl ⟨by rfl, ?_⟩) ⟨D3.out.c0, D3.out.c1, D3.out.c2⟩ ?_
  · intro w hSw
    obtain ⟨s0, s1, s2⟩ := hSw
    go_simp
  try simp only [Act.put, List.setIfInBounds_toArray]
  refine wpAnyC_take8 (i := 1) (oi := _) (v := I 2) rfl (by kernel_rfl) (by kernel_rfl) (by kernel_rfl) (by kernel_rfl) (by kernel_rfl) (by kernel_rfl) (fun _ _ _ h => h) (Or.inl ⟨by rfl, ?_⟩) ⟨D3.out.c0, D3.out.c1, D3.out.c2⟩ ?_
  · intro w hSw
    obtain ⟨s0, s1, s2⟩ := hSw
    go_simp
  try simp only [Act.put]
  refine wpAnyC_take8 (i := 2) (oi := _) (v := .pointer (some ⟨b, 2, none⟩)) rfl (by kernel_rfl) (by kernel_rfl) (by kernel_rfl) (by kernel_rfl) (by kernel_rfl) (by kernel_rfl) (fun _ _ _ h => h) (Or.inl ⟨by rfl, ?_⟩) ⟨D3.out.c0, D3.out.c1, D3.out.c2⟩ ?_
  · intro w hSw
    obtain ⟨s0, s1, s2⟩ := hSw
    go_simp
  try simp only [Act.put]
  refine wpAnyC_take8 (i := 3) (oi := _) (v := .string ⟨#[49]⟩) rfl (by kernel_rfl) (by kernel_rfl) (by kernel_rfl) (by kernel_rfl) (by kernel_rfl) (by kernel_rfl) (fun _ _ _ h => h) (Or.inl ⟨by rfl, ?_⟩) ⟨D3.out.c0, D3.out.c1, D3.out.c2⟩ ?_
  · intro w hSw
    obtain ⟨s0, s1, s2⟩ := hSw
    go_simp
  try simp only [Act.put]
  refine wpAnyC_take8 (i := 4) (oi := _) (v := .slice (some ⟨b, 0, none⟩) 3 c) rfl (by kernel_rfl) (by kernel_rfl) (by kernel_rfl) (by kernel_rfl) (by kernel_rfl) (by kernel_rfl) (fun _ _ _ h => h) (Or.inl ⟨by rfl, ?_⟩) ⟨D3.out.c0, D3.out.c1, D3.out.c2⟩ ?_
  · intro w hSw
    obtain ⟨s0, s1, s2⟩ := hSw
    go_simp
  try simp only [Act.put]
  refine wpAnyC_take8 (i := 5) (oi := _) (v := I 1) rfl (by kernel_rfl) (by kernel_rfl) (by kernel_rfl) (by kernel_rfl) (by kernel_rfl) (by kernel_rfl) (fun _ _ _ h => h) (Or.inl ⟨by rfl, ?_⟩) ⟨D3.out.c0, D3.out.c1, D3.out.c2⟩ ?_
  · intro w hSw
    obtain ⟨s0, s1, s2⟩ := hSw
    go_simp
  try simp only [Act.put]
  refine wpAnyC_take8 (i := 6) (oi := _) (v := .pointer (some ⟨b, 1, none⟩)) rfl (by kernel_rfl) (by kernel_rfl) (by kernel_rfl) (by kernel_rfl) (by kernel_rfl) (by kernel_rfl) (fun _ _ _ h => h) (Or.inl ⟨by rfl, ?_⟩) ⟨D3.out.c0, D3.out.c1, D3.out.c2⟩ ?_
  · intro w hSw
    obtain ⟨s0, s1, s2⟩ := hSw
    go_simp
  try simp only [Act.put]
  refine wpAnyC_take8 (i := 7) (oi := _) (v := .string ⟨#[49]⟩) rfl (by kernel_rfl) (by kernel_rfl) (by kernel_rfl) (by kernel_rfl) (by kernel_rfl) (by kernel_rfl) (fun _ _ _ h => h) (Or.inl ⟨by rfl, ?_⟩) ⟨D3.out.c0, D3.out.c1, D3.out.c2⟩ ?_
  · intro w hSw
    obtain ⟨s0, s1, s2⟩ := hSw
    go_simp
  try simp only [Act.put]
  refine wpAnyC_one (i := 8) (by kernel_rfl) rfl (fun K hK => ?_)
  go_simp
  go_at_call 13
  refine (ratCmp_any ⟨#[49]⟩ ⟨#[49]⟩ w3.drew (by decide) (by decide) (tab_below HTB.out HD3.out)).mono ?_
  rintro e w4 ⟨rfl, hb⟩
  rw [lfact2]
  have HB4 := Lib.hid (HD3.out.trans (hb.mono HD3.out.size))
  have C4 := Lib.hid (D3.out.below hb)
  refine hK.out _ _ (fun _ => ⟨C4.out.c0, C4.out.c1, C4.out.c2⟩) ?_
  clear hK K hb HB3 C3 D3 HD3
  refine wpAnyC_one (i := 9) (by kernel_rfl) rfl (fun K hK => ?_)
  go_simp
  refine hK.out _ _ (fun _ => ⟨C4.out.c0, C4.out.c1, C4.out.c2⟩) ?_
  clear hK K
  try simp only [Act.put, List.setIfInBounds_toArray, List.set_cons_zero, List.set_cons_succ]
  refine wpAnyC_take8 (i := 10) (oi := _) (v := I (0)) rfl (by kernel_rfl) (by kernel_rfl) (by kernel_rfl) (by kernel_rfl) (by kernel_rfl) (by kernel_rfl) (fun _ _ _ h => h) (Or.inl ⟨by rfl, ?_⟩) ⟨C4.out.c0, C4.out.c1, C4.out.c2⟩ ?_
  · intro w hSw
    obtain ⟨s0, s1, s2⟩ := hSw
    go_simp
  try simp only [Act.put, List.setIfInBounds_toArray]
  refine wpAnyC_take8 (i := 11) (oi := _) (v := I 0) rfl (by kernel_rfl) (by kernel_rfl) (by kernel_rfl) (by kernel_rfl) (by kernel_rfl) (by kernel_rfl) (fun _ _ _ h => h) (Or.inl ⟨by rfl, ?_⟩) ⟨C4.out.c0, C4.out.c1, C4.out.c2⟩ ?_
  · intro w hSw
    obtain ⟨s0, s1, s2⟩ := hSw
    go_simp
  try simp only [Act.put]
  refine wpAnyC_one (i := 12) (by kernel_rfl) rfl (fun K hK => ?_)
  go_simp
  refine hK.out _ _ (fun _ => ⟨C4.out.c0, C4.out.c1, C4.out.c2⟩) ?_
  clear hK K
  try simp only [Act.put, List.setIfInBounds_toArray, List.set_cons_zero, List.set_cons_succ]
  refine wpAnyC_one (i := 13) (by kernel_rfl) rfl (fun K hK => ?_)
  go_simp
  refine hK.out _ _ (fun h => absurd h (by decide)) ?_
  clear hK K
  refine wpAnyC_done (by kernel_rfl) ?_ _
  go_wp2
  rw [rounds_succ]
  go_wp2
  go_ret2
  exact ⟨rfl, HB4.out⟩
end Go.Proofs.YtpbdlmjfjkfphaaGreatDoor
namespace Go.Proofs.YtpbdlmjfjkfphaaGreatDoor
open Go.RowKit

theorem rfact0 : ratOf 6 (-4) = ([45, 51, 47, 50], 0) := by decide +kernel
theorem rfact1 : ratAdd (SL (⟨#[49, 47, 50]⟩)) (SL (⟨#[49, 47, 51]⟩)) = ([53, 47, 54], 0) := by decide +kernel
theorem rfact2 : ratSub (SL (⟨#[49, 47, 50]⟩)) (SL (⟨#[49, 47, 51]⟩)) = ([49, 47, 54], 0) := by decide +kernel
theorem rfact3 : ratMul (SL (⟨#[50, 47, 51]⟩)) (SL (⟨#[51, 47, 50]⟩)) = ([49], 0) := by decide +kernel
theorem rfact4 : ratDiv (SL (⟨#[49]⟩)) (SL (⟨#[45, 51]⟩)) = ([45, 49, 47, 51], 0) := by decide +kernel
theorem rfact5 : ratNeg (SL (⟨#[49, 47, 50]⟩)) = ([45, 49, 47, 50], 0) := by decide +kernel
theorem rfact6 : ratCmp (SL (⟨#[49, 47, 50]⟩)) (SL (⟨#[49, 47, 51]⟩)) = (1, 0) := by decide +kernel
theorem rfact7 : ratCmp (SL (⟨#[45, 49]⟩)) [48] = (-1, 0) := by decide +kernel
theorem rfact8 : ratInt (SL (⟨#[45, 49, 47, 50]⟩)) (rval (SL (⟨#[45, 49, 47, 50]⟩))).floor = ([45, 49], 0) := by decide +kernel
theorem rfact9 : ratInt (SL (⟨#[49, 47, 50]⟩)) (rval (SL (⟨#[49, 47, 50]⟩))).ceil = ([49], 0) := by decide +kernel
theorem rfact10 : ratInt (SL (⟨#[53, 47, 50]⟩)) (roundQ (rval (SL (⟨#[53, 47, 50]⟩)))) = ([50], 0) := by decide +kernel
theorem rint7 : rchk (SL (⟨#[45, 55]⟩)) = 0 ∧ cutI (SL (⟨#[45, 55]⟩)) = false ∧ (rval (SL (⟨#[45, 55]⟩))).num = -7 := by decide +kernel
theorem rchk24 : rchk (SL (⟨#[50, 47, 52]⟩)) = 3 := by decide +kernel
theorem rall00 : rAll ([(⟨#[48]⟩ : ByteArray), ⟨#[45, 48]⟩].map SL) = 5 := by decide +kernel
theorem integ7 {w w' : World} {e : Ending} (h : IntegR w (SL (⟨#[45, 55]⟩)) e w') : e = .returned (.tuple #[I (-7), I 0]) ∧ Below w.heap.size w w' := by
  obtain ⟨n, c, rfl, -, h2, hb⟩ := h
  obtain ⟨k1, k2, k3⟩ := rint7
  obtain ⟨h3, h4⟩ := (h2 k1).2 k2 (by rw [k3]; decide)
  rw [h3, h4, k3]
  exact ⟨rfl, hb⟩
theorem reads_strs (w : World) (t : TypeId) (l : List ByteArray) : Reads (w.alloc (.cells (l.map Sv).toArray t)) (w.alloc (.cells (l.map Sv).toArray t)).heap.size 1 (some ⟨w.heap.size, 0, none⟩) l.length (l.map Sv) := by
  have := reads_lits w t (l.map Sv)
  rw [World.size_alloc]
  rw [List.length_map] at this
  exact this
theorem rstr0 : ((⟨[45, 49].toArray⟩ : ByteArray).toList == [45, 49]) = true := by decide +kernel
theorem rstr1 : ((⟨[45, 49, 47, 50].toArray⟩ : ByteArray).toList == [45, 49, 47, 50]) = true := by decide +kernel
theorem rstr2 : ((⟨[45, 49, 47, 51].toArray⟩ : ByteArray).toList == [45, 49, 47, 51]) = true := by decide +kernel
theorem rstr3 : ((⟨[45, 51, 47, 50].toArray⟩ : ByteArray).toList == [45, 51, 47, 50]) = true := by decide +kernel
theorem rstr4 : ((⟨[49].toArray⟩ : ByteArray).toList == [49]) = true := by decide +kernel
theorem rstr5 : ((⟨[49, 47, 54].toArray⟩ : ByteArray).toList == [49, 47, 54]) = true := by decide +kernel
theorem rstr6 : ((⟨[50].toArray⟩ : ByteArray).toList == [50]) = true := by decide +kernel
theorem rstr7 : ((⟨[53, 47, 54].toArray⟩ : ByteArray).toList == [53, 47, 54]) = true := by decide +kernel
set_option maxRecDepth 100000 in
set_option maxHeartbeats 4000000 in
theorem ratFact_any (w : World) (htab : Tab w) : Calls Tryz.prog 6 #[] w fun e w' => e = .returned (.bool true) ∧ Below w.heap.size w w' := by
  have HTB := Lib.hid htab
  clear htab
  go_enter Tryz.func6, Tryz.ntmps6
  go_wp2_with fail
  refine (ratOf_any 6 (-4) w (by omega) (by omega) (by omega) (by omega) HTB.out).mono ?_
  rintro e w1 ⟨rfl, hb⟩
  rw [rfact0]
  have HB1 := Lib.hid (hb)
  clear hb
  go_wp2_with fail
  refine (ratAdd_any ⟨#[49, 47, 50]⟩ ⟨#[49, 47, 51]⟩ w1 (by decide) (by decide) (tab_below HTB.out HB1.out)).mono ?_
  rintro e w2 ⟨rfl, hb⟩
  rw [rfact1]
  have HB2 := Lib.hid (HB1.out.trans (hb.mono HB1.out.size))
  clear hb HB1
  go_wp2_with fail
  refine (ratSub_any ⟨#[49, 47, 50]⟩ ⟨#[49, 47, 51]⟩ w2 (by decide) (by decide) (tab_below HTB.out HB2.out)).mono ?_
  rintro e w3 ⟨rfl, hb⟩
  rw [rfact2]
  have HB3 := Lib.hid (HB2.out.trans (hb.mono HB2.out.size))
  clear hb HB2
  go_wp2_with fail
  refine (ratMul_any ⟨#[50, 47, 51]⟩ ⟨#[51, 47, 50]⟩ w3 (by decide) (by decide) (tab_below HTB.out HB3.out)).mono ?_
  rintro e w4 ⟨rfl, hb⟩
  rw [rfact3]
  have HB4 := Lib.hid (HB3.out.trans (hb.mono HB3.out.size))
  clear hb HB3
  go_wp2_with fail
  refine (ratDiv_any ⟨#[49]⟩ ⟨#[45, 51]⟩ w4 (by decide) (by decide) (tab_below HTB.out HB4.out)).mono ?_
  rintro e w5 ⟨rfl, hb⟩
  rw [rfact4]
  have HB5 := Lib.hid (HB4.out.trans (hb.mono HB4.out.size))
  clear hb HB4
  go_wp2_with fail
  refine (ratNeg_any ⟨#[49, 47, 50]⟩ w5 (by decide) (tab_below HTB.out HB5.out)).mono ?_
  rintro e w6 ⟨rfl, hb⟩
  rw [rfact5]
  have HB6 := Lib.hid (HB5.out.trans (hb.mono HB5.out.size))
  clear hb HB5
  go_wp2_with fail
  refine (ratCmp_any ⟨#[49, 47, 50]⟩ ⟨#[49, 47, 51]⟩ w6 (by decide) (by decide) (tab_below HTB.out HB6.out)).mono ?_
  rintro e w7 ⟨rfl, hb⟩
  rw [rfact6]
  have HB7 := Lib.hid (HB6.out.trans (hb.mono HB6.out.size))
  clear hb HB6
  go_wp2_with fail
  refine (ratSign_any ⟨#[45, 49]⟩ w7 (by decide) (tab_below HTB.out HB7.out)).mono ?_
  rintro e w8 ⟨rfl, hb⟩
  rw [rfact7]
  have HB8 := Lib.hid (HB7.out.trans (hb.mono HB7.out.size))
  clear hb HB7
  go_wp2_with fail
  refine (ratFloor_any ⟨#[45, 49, 47, 50]⟩ w8 (by decide) (tab_below HTB.out HB8.out)).mono ?_
  rintro e w9 ⟨rfl, hb⟩
  rw [rfact8]
  have HB9 := Lib.hid (HB8.out.trans (hb.mono HB8.out.size))
  clear hb HB8
  go_wp2_with fail
  refine (ratCeil_any ⟨#[49, 47, 50]⟩ w9 (by decide) (tab_below HTB.out HB9.out)).mono ?_
  rintro e w10 ⟨rfl, hb⟩
  rw [rfact9]
  have HB10 := Lib.hid (HB9.out.trans (hb.mono HB9.out.size))
  clear hb HB9
  go_wp2_with fail
  refine (ratRound_any ⟨#[53, 47, 50]⟩ w10 (by decide) (tab_below HTB.out HB10.out)).mono ?_
  rintro e w11 ⟨rfl, hb⟩
  rw [rfact10]
  have HB11 := Lib.hid (HB10.out.trans (hb.mono HB10.out.size))
  clear hb HB10
  go_wp2_with fail
  refine (ratInteger_any ⟨#[45, 55]⟩ w11 (by decide) (tab_below HTB.out HB11.out)).mono ?_
  rintro e w12 h
  obtain ⟨rfl, hb⟩ := integ7 h
  have HB12 := Lib.hid (HB11.out.trans (hb.mono HB11.out.size))
  clear hb HB11
  have HR := reads_strs w12 22 [⟨#[49, 47, 50]⟩, ⟨#[49, 47, 51]⟩, ⟨#[49, 47, 54]⟩]
  have HBA := Lib.hid (HB12.out.alloc HB12.out.size (.cells #[.string ⟨#[49, 47, 50]⟩, .string ⟨#[49, 47, 51]⟩, .string ⟨#[49, 47, 54]⟩] 22))
  have HS := Lib.hid (sum_fact w12.heap.size 3 (w12.alloc (.cells #[.string ⟨#[49, 47, 50]⟩, .string ⟨#[49, 47, 51]⟩, .string ⟨#[49, 47, 54]⟩] 22)) HR (tab_below HTB.out HBA.out))
  clear HR HB12
  go_wp2_with fail
  refine HS.out.mono ?_
  rintro e w13 ⟨rfl, hb⟩
  have HB13 := Lib.hid (HBA.out.trans (hb.mono HBA.out.size))
  clear hb HBA HS
  have HR := reads_strs w13 22 [⟨#[50]⟩, ⟨#[49]⟩, ⟨#[49]⟩]
  have HBA := Lib.hid (HB13.out.alloc HB13.out.size (.cells #[.string ⟨#[50]⟩, .string ⟨#[49]⟩, .string ⟨#[49]⟩] 22))
  have HS := Lib.hid (least_fact w13.heap.size 3 (w13.alloc (.cells #[.string ⟨#[50]⟩, .string ⟨#[49]⟩, .string ⟨#[49]⟩] 22)) HR (tab_below HTB.out HBA.out))
  clear HR HB13
  go_wp2_with fail
  refine HS.out.mono ?_
  rintro e w14 ⟨rfl, hb⟩
  have HB14 := Lib.hid (HBA.out.trans (hb.mono HBA.out.size))
  clear hb HBA HS
  have HR := Lib.hid (fine_any [0, 0, 0, 0, 0, 0, 0, 0, 0, 0, 0, 0, 0, 0] 14 (some ⟨w14.heap.size, 0, none⟩) 14 (w14.alloc (.cells #[I 0, I 0, I 0, I 0, I 0, I 0, I 0, I 0, I 0, I 0, I 0, I 0, I 0, I 0] 24)) _ (reads_lits w14 _ [I 0, I 0, I 0, I 0, I 0, I 0, I 0, I 0, I 0, I 0, I 0, I 0, I 0, I 0]) (by omega))
  have HBA := Lib.hid (HB14.out.alloc HB14.out.size (.cells #[I 0, I 0, I 0, I 0, I 0, I 0, I 0, I 0, I 0, I 0, I 0, I 0, I 0, I 0] 24))
  rw [show fineB [0, 0, 0, 0, 0, 0, 0, 0, 0, 0, 0, 0, 0, 0] = true from rfl] at HR
  have s0 := rstr0
  have s1 := rstr1
  have s2 := rstr2
  have s3 := rstr3
  have s4 := rstr4
  have s5 := rstr5
  have s6 := rstr6
  have s7 := rstr7
  clear HB14
  go_wp2_with fail
  refine HR.out.mono ?_
  rintro e wz ⟨rfl, rfl⟩
  clear HR
  generalize w14.alloc (.cells #[I 0, I 0, I 0, I 0, I 0, I 0, I 0, I 0, I 0, I 0, I 0, I 0, I 0, I 0] 24) = wy at *
  go_wp2_with fail
  refine (rchk_any ⟨#[50, 47, 52]⟩ _ (by decide) (tab_below HTB.out HBA.out)).mono ?_
  rintro e wx ⟨rfl, hb⟩
  rw [rchk24]
  have HBX := Lib.hid (HBA.out.trans (hb.mono HBA.out.size))
  clear hb HBA
  have HR := reads_strs wx 22 [⟨#[48]⟩, ⟨#[45, 48]⟩]
  have HBY := Lib.hid (HBX.out.alloc HBX.out.size (.cells #[.string ⟨#[48]⟩, .string ⟨#[45, 48]⟩] 22))
  have HS := Lib.hid (rall_any [⟨#[48]⟩, ⟨#[45, 48]⟩] 2 (some ⟨wx.heap.size, 0, none⟩) 2 (wx.alloc (.cells #[.string ⟨#[48]⟩, .string ⟨#[45, 48]⟩] 22)) HR (by omega) (fun x hx => mem2 (by decide) (by decide) hx) (tab_below HTB.out HBY.out))
  rw [rall00] at HS
  clear HR HBX
  go_wp2_with fail
  refine HS.out.mono ?_
  rintro e wv ⟨rfl, hb⟩
  have HBZ := Lib.hid (HBY.out.trans (hb.mono HBY.out.size))
  clear hb HBY HS
  go_wp2
  go_ret
  exact ⟨rfl, HBZ.out⟩
end Go.Proofs.YtpbdlmjfjkfphaaGreatDoor
