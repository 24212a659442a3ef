/- station.Path. -/
import Derived.Test.YtphiiflcpeploaaIsol
import Derived.Test.YtphiiflcpeploaaWays
namespace Go.Proofs.Ytphiiflcpeploaa
open Go.RowKit

theorem back_mem {l : List (Int × Int)} {es far : List Int} {t : Int} : ∀ (f : Nat) (a : Int), ∀ k ∈ back l es far t f a, k ∈ es
  | 0, _, k, h => by simp [back] at h
  | f + 1, a, k, h => by
    rw [back] at h
    split at h
    · simp at h
    · split at h
      · simp at h
      · rename_i k' hk'
        rcases List.mem_cons.1 h with rfl | h
        · exact List.mem_of_find?_eq_some hk'
        · exact back_mem f _ k h
theorem pathE_mem {n : Int} {l : List (Int × Int)} {a b : Int} : ∀ k ∈ (pathE n l a b).1, 0 ≤ k ∧ k < l.length := by
  intro k hk
  rw [pathE] at hk
  split at hk
  · split at hk
    · simp at hk
    · split at hk
      · rw [pathL] at hk
        split at hk
        · simp at hk
        · exact mem_all.1 (back_mem _ _ k hk)
      · simp at hk
  · simp at hk
/-- a way does not use more edges than there are nodes -/
theorem pathE_len (n : Int) (l : List (Int × Int)) (a b : Int) : (pathE n l a b).1.length ≤ 25 := by
  by_cases h0 : chk n l = 0
  · by_cases hr : a < 0 ∨ n ≤ a ∨ b < 0 ∨ n ≤ b
    · rw [pathE, if_pos h0, if_pos hr]; simp
    · obtain ⟨hn0, hn, hl, hv⟩ := chk_ok h0
      obtain ⟨m, rfl⟩ := Int.eq_ofNat_of_zero_le hn0
      rw [pathE, if_pos h0, if_neg hr]
      simp only [Int.toNat_natCast] at hv ⊢
      split
      · simp only
        rw [pathL]
        split
        · simp
        · have h1 := (far_inv hv (all_within l) (show 0 ≤ b ∧ b < (m : Int) by omega)).bound a (by omega) (by omega)
          have h2 := back_len l (allL l.length) (farL m l (allL l.length) b) b (((farL m l (allL l.length) b).getD a.toNat 0).toNat + 1) a
          simp only
          unfold at_ at h1
          omega
      · simp
  · rw [pathE, if_neg h0]; simp
theorem which_mem {n : NetD} {o : Bool} : ∀ i ∈ (edgesL n o).map (fun e => e.2), 0 ≤ i ∧ i < (n.switches.length : Int) := by
  intro i hi
  obtain ⟨e, he, rfl⟩ := List.mem_map.1 hi
  obtain ⟨j, hj, _, rfl⟩ := edgesFrom_mem he
  simp only
  omega

def pathOf (n : NetD) (a b : ByteArray) : List Int × Int := pathE n.nodes.length ((edgesL n false).map (·.1)) (Lib.idxOfS n.nodes a) (Lib.idxOfS n.nodes b)
def stPath (n : NetD) (a b : ByteArray) : List ByteArray × Int :=
  if stCheck n [a, b] = 0 then (if (pathOf n a b).2 = 0 then (namesL n (pathOf n a b).1 ((edgesL n false).map (·.2)), 0) else ([], (pathOf n a b).2)) else ([], stCheck n [a, b])

/-- what Path holds on to while it goes on -/
structure Held0 (w : World) (nb : Array Value) (w' : World) : Prop where
  below : Below w.heap.size w w'
  box : Blk w' w.heap.size 47 nb
theorem Held0.step {w w0 w1 : World} {nb : Array Value} (h : Held0 w nb w0) (hb : Below w0.heap.size w0 w1) : Held0 w nb w1 := ⟨h.below.trans (hb.mono h.below.size), h.box.below hb h.box.lt⟩

set_option maxRecDepth 100000 in
set_option maxHeartbeats 2000000 in
theorem stPath_any (n : NetD) (v : NetV) (a b : ByteArray) (w : World) (hN : Net w n v) : Calls Try.prog 32 #[v.val n, .string a, .string b] w (RetStrsE w (stPath n a b)) := by
  have hb0 := below2 w (Obj.cells (v.parts n) 47) (Obj.cells #[.string a, .string b] 9)
  have HC := Lib.hid (stCheck_any n v [a, b] (some ⟨w.heap.size + 1, 0, none⟩) 2 _ (hN.below hb0) (reads_box2 w _ 9 a b) (by simp))
  have HN := Lib.hid hN
  have HB0 := Lib.hid hb0
  have HBX := Lib.hid ((Blk.new w 47 (v.parts n)).alloc (Obj.cells #[.string a, .string b] 9))
  have HD := Lib.hid (show stPath n a b = if stCheck n [a, b] = 0 then (if (pathOf n a b).2 = 0 then (namesL n (pathOf n a b).1 ((edgesL n false).map (·.2)), 0) else ([], (pathOf n a b).2)) else ([], stCheck n [a, b]) from rfl)
  have HOK := Lib.hid (@stCheck_ok n [a, b])
  have HED := Lib.hid (fun w hn h1 h2 => edges_any n v false w hn h1 h2)
  have HNA := Lib.hid (fun way which A K ac kc w => names_any n v way which A K ac kc w)
  have HPM : Hid (∀ k ∈ (pathOf n a b).1, 0 ≤ k ∧ k < ((edgesL n false).map (·.1)).length) := fun k hk => pathE_mem k hk
  have HWM := Lib.hid (@which_mem n false)
  have HPD := Lib.hid (show pathOf n a b = pathE n.nodes.length ((edgesL n false).map (·.1)) (Lib.idxOfS n.nodes a) (Lib.idxOfS n.nodes b) from rfl)
  have HEL := Lib.hid (edges_len n false)
  have HPL := Lib.hid (show (pathOf n a b).1.length ≤ 25 from pathE_len _ _ _ _)
  have HE12 := Lib.hid (show ((edgesL n false).map (·.1)).length = (edgesL n false).length ∧ ((edgesL n false).map (·.2)).length = (edgesL n false).length by simp)
  clear hb0 hN
  unfold NetV.val NetV.parts at *
  obtain ⟨er, her⟩ : ∃ er, stCheck n [a, b] = er := ⟨_, rfl⟩
  rw [her] at HC HD HOK
  clear her
  go_enter Try.func32, Try.ntmps32
  go_wp2_with fail
  refine HC.out.mono ?_
  rintro e w1 ⟨rfl, b1⟩
  have HB1 := Lib.hid (HB0.out.trans (b1.mono HB0.out.size))
  have HBX1 := Lib.hid (HBX.out.below b1 HBX.out.lt)
  clear b1 HC HBX HB0
  by_cases h0 : er = 0
  · subst h0
    have HV := Lib.hid (vnet (HOK.out rfl).1)
    have hw := HV.out.hw
    have hnn := HV.out.hn
    have x0 := HBX1.out.cell 0
    have x1 := HBX1.out.cell 1
    have x2 := HBX1.out.cell 2
    have x3 := HBX1.out.cell 3
    have x4 := HBX1.out.cell 4
    have x5 := HBX1.out.cell 5
    have hl1 : w.heap.size < w1.heap.size := HBX1.out.lt
    have HED1 := Lib.hid (HED.out w1 (HN.out.below HB1.out).net (by omega) (by omega))
    go_wp2_with fail
    refine HED1.out.mono ?_
    rintro e w2 ⟨lv, kv, rfl, hl, hk, hb2⟩
    obtain ⟨A, c, rfl⟩ := hl.val
    obtain ⟨K, kc, rfl⟩ := hk.val
    have he1 := HE12.out.1
    have he2 := HE12.out.2
    obtain ⟨es, hes⟩ : ∃ es, (edgesL n false).map (·.1) = es := ⟨_, rfl⟩
    obtain ⟨ks, hks⟩ : ∃ ks, (edgesL n false).map (·.2) = ks := ⟨_, rfl⟩
    rw [hes] at he1 HPM HPD HEL hl
    rw [hks] at he2 HWM HD hk
    obtain ⟨m, hm⟩ : ∃ m, (edgesL n false).length = m := ⟨_, rfl⟩
    rw [hm] at he1 he2 hl hk ⊢
    have hel : es.length ≤ 32 := Nat.le_trans HEL.out hw
    subst he1
    have HLR := Lib.hid hl
    have HKR := Lib.hid hk
    have HB2 := Lib.hid (HB1.out.trans (hb2.mono HB1.out.size))
    have HBX2 := Lib.hid (HBX1.out.below hb2 HBX1.out.lt)
    have HIN := Lib.hid (HN.out.below HB2.out).net
    have HKL := Lib.hid he2
    clear hl hk hb2 he2 hm hes hks HED HED1 HE12 x0 x1 x2 x3 x4 x5
    have y0 : w2.cell? ⟨w.heap.size, 0, none⟩ = some (.slice v.na n.nodes.length v.nc) := HBX2.out.cell 0
    have hl2 : w.heap.size < w2.heap.size := HBX2.out.lt
    have HP : Hid (∀ W, GArgs W (n.nodes.length : Int) es A c → Calls Try.prog 17 #[I n.nodes.length, .slice A es.length c, I (Lib.idxOfS n.nodes a), I (Lib.idxOfS n.nodes b)] W (RetIntsE W (pathOf n a b))) := fun W hG => by rw [HPD.out]; exact pathE_any _ es A c _ _ W hG
    go_wp2
    go_region_held3 (fun w' => w'.cell? ⟨w.heap.size, 0, none⟩ = some (.slice v.na n.nodes.length v.nc))
      (first | (with_reducible exact y0) | (with_reducible exact HX.out) | go_keep)
      (first | (go_at_call 59; refine (idxS_any n.nodes _ v.na v.nc _ _ _ rfl HIN.out.nodes.drew (by omega)).mono ?_; rintro e w' ⟨rfl, rfl⟩) | (go_at_call 17; refine (HP.out _ (gargs_row HLR.out.drew (by omega) (by omega))).mono ?_; rintro e w3 ⟨pv, rfl, hr3, hb3⟩; have HX := Lib.hid (show w3.cell? ⟨w.heap.size, 0, none⟩ = some (.slice v.na n.nodes.length v.nc) from (HBX2.out.drew.below hb3 HBX2.out.lt).cell 0)))
    have hb3' : Below w2.heap.size w2 w3 := ⟨hb3.os, hb3.tape, hb3.output, hb3.size, hb3.block⟩
    have HB3 := Lib.hid (HB2.out.trans (hb3'.mono HB2.out.size))
    have HBX3 := Lib.hid (HBX2.out.below hb3' HBX2.out.lt)
    have HKR3 := Lib.hid (HKR.out.call hb3')
    have HWR := Lib.hid hr3
    have hz3 := hb3'.size
    clear hb3 hb3' hr3 HX HP y0
    obtain ⟨pp, hpp⟩ : ∃ pp, pathOf n a b = pp := ⟨_, rfl⟩
    rw [hpp] at HPM HPL HD HWR ⊢
    clear hpp HPD
    obtain ⟨pw, pe⟩ := pp
    simp only at HPM HPL HD HWR ⊢
    by_cases hp : pe = 0
    · subst hp
      have HD2 := Lib.hid (show stPath n a b = (namesL n pw ks, 0) by rw [HD.out]; simp)
      obtain ⟨B, bc, rfl⟩ := HWR.out.val
      have x0 := HBX3.out.cell 0
      have x1 := HBX3.out.cell 1
      have x2 := HBX3.out.cell 2
      have x3 := HBX3.out.cell 3
      have x4 := HBX3.out.cell 4
      have x5 := HBX3.out.cell 5
      have hl3 : w.heap.size < w3.heap.size := HBX3.out.lt
      have hkl := HKL.out
      have HNM := Lib.hid (HNA.out pw ks B K bc kc w3 (HN.out.below HB3.out).net HWR.out.reads (by have := HKR3.out.reads; rw [← hkl] at this; exact this) (by rw [hkl]; exact HPM.out) HWM.out (by have := HPL.out; omega) (by omega) (by omega))
      rw [hkl] at HNM
      clear hkl
      go_wp2_with fail
      refine HNM.out.mono ?_
      rintro e w4 ⟨ov, rfl, hr4, hb4⟩
      have HF : Hid (RetStrsE w (namesL n pw ks, 0) (.returned (.tuple #[ov, I 0])) w4) := ⟨ov, rfl, hr4.less (by omega), HB3.out.trans (hb4.mono HB3.out.size)⟩
      clear hr4 hb4 HNM x0 x1 x2 x3 x4 x5
      go_wp2
      go_ret2
      rw [HD2.out]
      exact HF.out
    · have t1 : (pe == 0) = false := beq_eq_false_iff_ne.2 hp
      have t2 : (pe != 0) = true := by rw [bne_iff_ne]; exact hp
      have HD2 := Lib.hid (show stPath n a b = ([], pe) by rw [HD.out]; simp [hp])
      clear hp
      go_wp2
      go_ret2
      rw [HD2.out]
      exact ⟨_, rfl, Row.nil _ _ _ _, HB3.out⟩
  · have t1 : (er == 0) = false := beq_eq_false_iff_ne.2 h0
    have t2 : (er != 0) = true := by rw [bne_iff_ne]; exact h0
    have HX := Lib.hid (show stPath n a b = ([], er) by rw [HD.out, if_neg h0])
    clear h0
    go_wp2
    go_ret2
    rw [HX.out]
    exact ⟨_, rfl, Row.nil _ _ _ _, HB1.out⟩
end Go.Proofs.Ytphiiflcpeploaa
