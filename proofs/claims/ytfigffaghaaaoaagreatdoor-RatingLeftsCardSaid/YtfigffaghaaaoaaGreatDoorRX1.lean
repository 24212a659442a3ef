/- rating: a watch in memory; New, Over, Left, Time. -/
import Derived.Test.YtfigffaghaaaoaaGreatDoorRN
import Derived.Test.YtfigffaghaaaoaaGreatDoorRNC
import Derived.Test.YtfigffaghaaaoaaGreatDoorRQ
import Derived.Test.YtfigffaghaaaoaaGreatDoorRW
import Derived.Test.YtfigffaghaaaoaaGreatDoorRSO
namespace Go.Proofs.YtfigffaghaaaoaaGreatDoor
open Go.RowKit

abbrev watT : TypeId := 64
abbrev brT : TypeId := 68
/-- where a watch lies: its block, the slices of branches and flows, the blocks of seconds and marks -/
structure Wat where
  g : Nat
  bA : Option Addr
  bc : Nat
  fA : Option Addr
  fc : Nat
  ab : Nat
  ob : Nat
def Wat.cells (p : Wat) (n : Nat) (t : Int) : Array Value := #[.slice p.bA n p.bc, .slice p.fA n p.fc, .slice (some ⟨p.ab, 0, none⟩) n n, .slice (some ⟨p.ob, 0, none⟩) n n, I t]
structure WS (w : World) (base : Nat) (p : Wat) (bs : List BranchD) (st : List RtB) (t : Int) : Prop where
  len : st.length = bs.length
  blk : Blk w p.g watT (p.cells bs.length t)
  ge : base ≤ p.g
  br : 0 < bs.length → Row w base brT 9 (.slice p.bA bs.length p.bc) bs.length (cellsBy BranchD.cells bs)
  fl : RRow w base (.slice p.fA bs.length p.fc) (st.map RtB.f)
  ab : Blk w p.ab 3 (st.map fun x => I x.a).toArray
  abg : base ≤ p.ab
  ob : Blk w p.ob boolT (st.map fun x => Value.bool x.o).toArray
  obg : base ≤ p.ob
section
variable {w w' : World} {base : Nat} {p : Wat} {bs : List BranchD} {st : List RtB} {t : Int}
theorem WS.call (h : WS w base p bs st t) (hb : Below w.heap.size w w') : WS w' base p bs st t :=
  ⟨h.len, h.blk.below hb h.blk.lt, h.ge, fun k => (h.br k).call hb, h.fl.call hb, h.ab.below hb h.ab.lt, h.abg, h.ob.below hb h.ob.lt, h.obg⟩
theorem WS.below (h : WS w base p bs st t) (hb : Below w.heap.size w w') : WS w' base p bs st t := h.call hb
theorem WS.branch (h : WS w base p bs st t) {i : Nat} (hi : i < bs.length) : ∃ b off, p.bA = some ⟨b, off, none⟩ ∧ b < w.heap.size ∧ ∀ j u, (bs[i].cells)[j]? = some u → w.cell? ⟨b, off + (i * 9 + j), none⟩ = some u :=
  reads_by (f := BranchD.cells) (fun _ => rfl) (by decide) (h.br (by omega)).reads hi
theorem WS.c0 (h : WS w base p bs st t) : w.cell? ⟨p.g, 0, none⟩ = some (.slice p.bA bs.length p.bc) := h.blk.cell 0
theorem WS.c1 (h : WS w base p bs st t) : w.cell? ⟨p.g, 1, none⟩ = some (.slice p.fA bs.length p.fc) := h.blk.cell 1
theorem WS.c2 (h : WS w base p bs st t) : w.cell? ⟨p.g, 2, none⟩ = some (.slice (some ⟨p.ab, 0, none⟩) bs.length bs.length) := h.blk.cell 2
theorem WS.c3 (h : WS w base p bs st t) : w.cell? ⟨p.g, 3, none⟩ = some (.slice (some ⟨p.ob, 0, none⟩) bs.length bs.length) := h.blk.cell 3
theorem WS.c4 (h : WS w base p bs st t) : w.cell? ⟨p.g, 4, none⟩ = some (I t) := h.blk.cell 4
theorem WS.abv (h : WS w base p bs st t) {i : Nat} (hi : i < bs.length) : w.cell? ⟨p.ab, i, none⟩ = some (I (st.getD i rt0).a) := by
  rw [h.ab.cell]
  have : i < st.length := by rw [h.len]; exact hi
  simp [List.getD_eq_getElem?_getD, this]
theorem WS.obv (h : WS w base p bs st t) {i : Nat} (hi : i < bs.length) : w.cell? ⟨p.ob, i, none⟩ = some (.bool (st.getD i rt0).o) := by
  rw [h.ob.cell]
  have : i < st.length := by rw [h.len]; exact hi
  simp [List.getD_eq_getElem?_getD, this]
end
theorem overL_succ : ∀ (bs : List BranchD) (st : List RtB) (i : Nat) (b : BranchD) (x : RtB), bs[i]? = some b → st[i]? = some x → overL (bs.take (i + 1)) (st.take (i + 1)) = overL (bs.take i) (st.take i) ++ (if x.o = true then [b.name] else [])
  | [], _, _, _, _, h, _ => by simp at h
  | _ :: _, [], _, _, _, _, h => by simp at h
  | c :: bs, y :: st, 0, b, x, h, k => by
    simp at h k; subst h k
    simp only [List.take_succ_cons, List.take_zero, overL]
    split <;> simp
  | c :: bs, y :: st, i + 1, b, x, h, k => by
    have ih := overL_succ bs st i b x (by simpa using h) (by simpa using k)
    simp only [List.take_succ_cons, overL] at ih ⊢
    rw [ih]
    split <;> simp
theorem leftL_succ : ∀ (bs : List BranchD) (st : List RtB) (i : Nat) (b : BranchD) (x : RtB), bs[i]? = some b → st[i]? = some x → leftL (bs.take (i + 1)) (st.take (i + 1)) = leftL (bs.take i) (st.take i) ++ [(b.name, leftB b x)]
  | [], _, _, _, _, h, _ => by simp at h
  | _ :: _, [], _, _, _, _, h => by simp at h
  | c :: bs, y :: st, 0, b, x, h, k => by
    simp at h k; subst h k
    simp [leftL]
  | c :: bs, y :: st, i + 1, b, x, h, k => by
    have ih := leftL_succ bs st i b x (by simpa using h) (by simpa using k)
    simp only [List.take_succ_cons, leftL] at ih ⊢
    rw [ih]
    simp
theorem overL_le : ∀ (bs : List BranchD) (st : List RtB), (overL bs st).length ≤ bs.length
  | [], st => by simp [overL]
  | _ :: _, [] => by simp [overL]
  | b :: bs, x :: st => by
    have := overL_le bs st
    rw [overL]
    split <;> simp <;> omega
theorem leftL_le : ∀ (bs : List BranchD) (st : List RtB), (leftL bs st).length ≤ bs.length
  | [], st => by simp [leftL]
  | _ :: _, [] => by simp [leftL]
  | b :: bs, x :: st => by
    have := leftL_le bs st
    rw [leftL]
    simp; omega
theorem leftL_len : ∀ (bs : List BranchD) (st : List RtB), st.length = bs.length → (leftL bs st).length = bs.length
  | [], st, _ => by simp [leftL]
  | _ :: _, [], h => by simp at h
  | b :: bs, x :: st, h => by
    have := leftL_len bs st (by simpa using h)
    rw [leftL]
    simp; omega
def RetWat (w : World) (n : NetD) (e : Ending) (w' : World) : Prop :=
  (checkN n ≠ 0 → e = .returned (.tuple #[.pointer none, I (checkN n)])) ∧ (checkN n = 0 → ∃ p, e = .returned (.tuple #[.pointer (some ⟨p.g, 0, none⟩), I 0]) ∧ WS w' w.heap.size p n.branches (List.replicate n.branches.length rt0) 0) ∧ Below w.heap.size w w'
theorem rep_map {α β : Type} (f : α → β) (x : α) (n : Nat) : (List.replicate n x).map f = List.replicate n (f x) := by simp

theorem netBy_of {n : NetD} (h : VNet n) : NetBy n := by
  have h1 := h.hn
  have h2 := h.hw
  have h3 := h.hb
  have h4 := h.hg
  have h5 := h.hl
  have h6 := h.hs
  exact ⟨by omega, by omega, by omega, by omega, by omega, by omega⟩
theorem wat_new {w W : World} {n : NetD} {bn bc zc a6 a8 : Nat} {bA zA : Option Addr} (he : n.branches.length = bn) (hB : Below w.heap.size w W) (hR : 0 < bn → Row W w.heap.size brT 9 (.slice bA bn bc) bn (cellsBy BranchD.cells n.branches)) (hZ : RRow W w.heap.size (.slice zA bn zc) (List.replicate bn 0))
    (hA : Blk W a6 3 (Array.replicate bn (I 0))) (ga : w.heap.size ≤ a6) (hO : Blk W a8 4 (Array.replicate bn (.bool false))) (go : w.heap.size ≤ a8) :
    WS (W.alloc (.cells #[.slice bA bn bc, .slice zA bn zc, .slice (some ⟨a6, 0, none⟩) bn bn, .slice (some ⟨a8, 0, none⟩) bn bn, I 0] 64)) w.heap.size ⟨W.heap.size, bA, bc, zA, zc, a6, a8⟩ n.branches (List.replicate n.branches.length rt0) 0 := by
  subst he
  have hb := below_new W (.cells #[.slice bA n.branches.length bc, .slice zA n.branches.length zc, .slice (some ⟨a6, 0, none⟩) n.branches.length n.branches.length, .slice (some ⟨a8, 0, none⟩) n.branches.length n.branches.length, I 0] 64)
  refine ⟨by simp, Blk.new W _ _, hB.size, fun k => (hR k).call hb, ?_, ?_, ga, ?_, go⟩
  · rw [rep_map]; exact hZ.call hb
  · rw [rep_map, List.toArray_replicate]; exact hA.below hb hA.lt
  · rw [rep_map, List.toArray_replicate]; exact hO.below hb hO.lt
theorem rnew_end {w W : World} {n : NetD} {p : Wat} (h : checkN n = 0) (hW : WS W w.heap.size p n.branches (List.replicate n.branches.length rt0) 0) (hB : Below w.heap.size w W) : RetWat w n (.returned (.tuple #[.pointer (some ⟨p.g, 0, none⟩), I 0])) W :=
  ⟨fun k => absurd h k, fun _ => ⟨p, rfl, hW⟩, hB⟩
theorem rnew_err {w W : World} {n : NetD} {c : Int} (h : checkN n = c) (hc : c ≠ 0) (hB : Below w.heap.size w W) : RetWat w n (.returned (.tuple #[.pointer none, I c])) W :=
  ⟨fun _ => by rw [h], fun k => absurd (h.symm.trans k) hc, hB⟩
theorem fld2 (x0 x1 x2 x3 x4 x5 : Value) (W : World) : (Instr.field 29 (.agg #[x0, x1, x2, x3, x4, x5]) 2).run Tryz.prog W = .ok x2 W := by kernel_rfl
set_option maxRecDepth 100000 in
set_option maxHeartbeats 16000000 in
theorem rnew_any (n : NetD) (v : NetV) (w : World) (hN : Net w n v) : Calls Tryz.prog 7 #[v.val n] w (RetWat w n) := by
  have hz := below_new w (Obj.cells (v.parts n) 29)
  have HN := Lib.hid (hN.below hz)
  have HG := Lib.hid (Blk.new w 29 (v.parts n))
  have HB := Lib.hid hz
  have HC := Lib.hid (netCheck_any n v _ (hN.below hz))
  clear hz hN
  by_cases e : checkN n = 0
  · have HV := Lib.hid (vnet e)
    have hbl : n.branches.length ≤ 24 := HV.out.hb
    have HE := Lib.hid e
    rw [e] at HC
    clear e
    unfold NetV.val NetV.parts at *
    go_enter Tryz.func7, Tryz.ntmps7
    go_wp2_with fail
    refine HC.out.mono ?_
    rintro e w1 ⟨rfl, hb⟩
    clear HC
    replace HN := Lib.hid (HN.out.below hb)
    replace HG := Lib.hid (HG.out.below hb HG.out.lt)
    replace HB := Lib.hid (HB.out.trans (hb.mono HB.out.size))
    clear hb
    have x2 := HG.out.cell 2
    go_upto_region 5 with (fail)
    clear x2
    have hd := below_draw w1
    replace HN := Lib.hid (HN.out.below hd)
    replace HG := Lib.hid (HG.out.below hd HG.out.lt)
    replace HB := Lib.hid (HB.out.trans (hd.mono HB.out.size))
    clear hd
    have hmk6 := make28 n.branches.length (by omega)
    have hmk8 := make_bool n.branches.length (by omega)
    unfold boolT at hmk8
    generalize hbn : n.branches.length = bn at *
    have HBN := Lib.hid hbn
    clear hbn
    refine wp_region_c (fun w' => w'.cell? ⟨w.heap.size, 0, none⟩ = some (.slice v.na n.nodes.length v.nc) ∧ w'.cell? ⟨w.heap.size, 1, none⟩ = some (.slice v.sa n.switches.length v.sc) ∧ w'.cell? ⟨w.heap.size, 2, none⟩ = some (.slice v.ba bn v.bc) ∧ w'.cell? ⟨w.heap.size, 3, none⟩ = some (.slice v.ga n.gens.length v.gc) ∧ w'.cell? ⟨w.heap.size, 4, none⟩ = some (.slice v.la n.loads.length v.lc) ∧ w'.cell? ⟨w.heap.size, 5, none⟩ = some (.slice v.ta n.stores.length v.tc)) 1 (by kernel_rfl) ?_
    generalize w1.drew = W at *
    refine wpAnyC_take8 (i := 0) (oi := _) (v := .agg #[.slice v.na n.nodes.length v.nc, .slice v.sa n.switches.length v.sc, .slice v.ba bn v.bc, .slice v.ga n.gens.length v.gc, .slice v.la n.loads.length v.lc, .slice v.ta n.stores.length v.tc]) rfl (by kernel_rfl) (by kernel_rfl) (by kernel_rfl) (by kernel_rfl) (by kernel_rfl) (by kernel_rfl) (fun _ _ _ h => h) (Or.inl ⟨by rfl, ?_⟩) ⟨HG.out.cell 0, HG.out.cell 1, HG.out.cell 2, HG.out.cell 3, HG.out.cell 4, HG.out.cell 5⟩ ?_
    · intro w hSw
      obtain ⟨s0, s1, s2, s3, s4, s5⟩ := hSw
      go_simp
    try simp only [Act.put, List.setIfInBounds_toArray]
    refine wpAnyC_takeP (i := 3) (oi := _) (v := I bn) rfl (by kernel_rfl) (by kernel_rfl) (by kernel_rfl) (by kernel_rfl) (fun _ _ _ h => h) (Or.inl ⟨by rfl, ?_⟩) ⟨HG.out.cell 0, HG.out.cell 1, HG.out.cell 2, HG.out.cell 3, HG.out.cell 4, HG.out.cell 5⟩ ?_
    · intro w _
      go_simp
    try simp only [Act.put]
    refine wpAnyC_takeP (i := 5) (oi := _) (v := I bn) rfl (by kernel_rfl) (by kernel_rfl) (by kernel_rfl) (by kernel_rfl) (fun _ _ _ h => h) (Or.inl ⟨by rfl, ?_⟩) ⟨HG.out.cell 0, HG.out.cell 1, HG.out.cell 2, HG.out.cell 3, HG.out.cell 4, HG.out.cell 5⟩ ?_
    · intro w _
      go_simp
    try simp only [Act.put]
    refine wpAnyC_takeP (i := 7) (oi := _) (v := I bn) rfl (by kernel_rfl) (by kernel_rfl) (by kernel_rfl) (by kernel_rfl) (fun _ _ _ h => h) (Or.inl ⟨by rfl, ?_⟩) ⟨HG.out.cell 0, HG.out.cell 1, HG.out.cell 2, HG.out.cell 3, HG.out.cell 4, HG.out.cell 5⟩ ?_
    · intro w _
      go_simp
    try simp only [Act.put]
    have HCP := Lib.hid (fun W (hW : NetIn W n v) => copy_all n v W hW (netBy_of HV.out))
    unfold NetV.val NetV.parts at HCP
    simp only [HBN.out] at HCP
    have HZC := Lib.hid (fun W => zeros_any bn W (by omega))

    refine wpAnyC_all (l := [1, 6, 8]) (by kernel_rfl) rfl ?_
    refine AllC.cons rfl (fun K hK => ?_) ?_
    · go_simp
      go_at_call 22
      refine (HCP.out _ HN.out.net).mono ?_
      rintro e W ⟨vc, rfl, _, hrows, hb⟩
      have hs := HB.out.size
      replace HG := Lib.hid (HG.out.below hb HG.out.lt)
      replace HN := Lib.hid (HN.out.below hb)
      replace HB := Lib.hid (HB.out.trans (hb.mono HB.out.size))
      try replace HR := Lib.hid (fun k => (HR.out k).call hb)
      try replace HZ := Lib.hid (HZ.out.call hb)
      try replace HA := Lib.hid (HA.out.below hb HA.out.lt)
      try replace HO := Lib.hid (HO.out.below hb HO.out.lt)
      clear hb
      have HR := Lib.hid (fun k => (hrows.r2 k).less hs)
      unfold NetV.val NetV.parts
      clear hrows hs
      rw [HBN.out] at HR
      refine hK.out _ _ (fun h => absurd h (by decide)) ?_
      clear hK K
      try simp only [Act.put, List.setIfInBounds_toArray, List.set_cons_zero, List.set_cons_succ]
      refine wpAnyC_takeQ (i := 2) (oi := _) (v := .slice vc.ba bn vc.bc) rfl (by kernel_rfl) (by kernel_rfl) (by kernel_rfl) (by kernel_rfl) (fun _ _ _ h => h) (Or.inl ⟨by rfl, ?_⟩) (by kernel_rfl) ?_
      · intro w _
        go_simp
        rw [HBN.out, fld2]
        rfl
      try simp only [Act.put, List.setIfInBounds_toArray]
      refine wpAnyC_all (l := [4, 6, 8]) (by kernel_rfl) rfl ?_
      refine AllC.cons rfl (fun K hK => ?_) ?_
      · go_simp
        go_at_call 23
        refine (HZC.out _).mono ?_
        rintro e W ⟨vz, rfl, hrow, hb⟩
        have hs := HB.out.size
        replace HG := Lib.hid (HG.out.below hb HG.out.lt)
        replace HN := Lib.hid (HN.out.below hb)
        replace HB := Lib.hid (HB.out.trans (hb.mono HB.out.size))
        try replace HR := Lib.hid (fun k => (HR.out k).call hb)
        try replace HZ := Lib.hid (HZ.out.call hb)
        try replace HA := Lib.hid (HA.out.below hb HA.out.lt)
        try replace HO := Lib.hid (HO.out.below hb HO.out.lt)
        clear hb
        replace hrow := hrow.less hs
        obtain ⟨zA, zc, rfl⟩ := hrow.val
        rw [List.length_replicate] at hrow ⊢
        have HZ := Lib.hid hrow
        clear hrow hs
        refine hK.out _ _ (fun h => absurd h (by decide)) ?_
        clear hK K
        try simp only [Act.put, List.setIfInBounds_toArray, List.set_cons_zero, List.set_cons_succ]
        refine wpAnyC_all (l := [6, 8]) (by kernel_rfl) rfl ?_
        refine AllC.cons rfl (fun K hK => ?_) ?_
        · go_simp
          have hb := below_new W (.cells (Array.replicate bn (I 0)) 3)
          have hx := Blk.new W 3 (Array.replicate bn (I 0))
          have hs := HB.out.size
          obtain ⟨a6, ha6⟩ : ∃ a6, W.heap.size = a6 := ⟨_, rfl⟩
          rw [ha6] at hx hs ⊢
          clear ha6
          have HAG := Lib.hid hs
          replace HG := Lib.hid (HG.out.below hb HG.out.lt)
          replace HN := Lib.hid (HN.out.below hb)
          replace HB := Lib.hid (HB.out.trans (hb.mono HB.out.size))
          try replace HR := Lib.hid (fun k => (HR.out k).call hb)
          try replace HZ := Lib.hid (HZ.out.call hb)
          try replace HA := Lib.hid (HA.out.below hb HA.out.lt)
          try replace HO := Lib.hid (HO.out.below hb HO.out.lt)
          clear hb
          have HA := Lib.hid hx
          clear hx hs
          generalize W.alloc (.cells (Array.replicate bn (I 0)) 3) = W at *
          refine hK.out _ _ (fun _ => ⟨HG.out.cell 0, HG.out.cell 1, HG.out.cell 2, HG.out.cell 3, HG.out.cell 4, HG.out.cell 5⟩) ?_
          clear hK K
          try simp only [Act.put, List.setIfInBounds_toArray, List.set_cons_zero, List.set_cons_succ]
          refine wpAnyC_all (l := [8]) (by kernel_rfl) rfl ?_
          refine AllC.cons rfl (fun K hK => ?_) AllC.nil
          go_simp
          have hb := below_new W (.cells (Array.replicate bn (.bool false)) 4)
          have hx := Blk.new W 4 (Array.replicate bn (.bool false))
          have hs := HB.out.size
          obtain ⟨a8, ha8⟩ : ∃ a8, W.heap.size = a8 := ⟨_, rfl⟩
          rw [ha8] at hx hs ⊢
          clear ha8
          have HOG := Lib.hid hs
          replace HG := Lib.hid (HG.out.below hb HG.out.lt)
          replace HN := Lib.hid (HN.out.below hb)
          replace HB := Lib.hid (HB.out.trans (hb.mono HB.out.size))
          try replace HR := Lib.hid (fun k => (HR.out k).call hb)
          try replace HZ := Lib.hid (HZ.out.call hb)
          try replace HA := Lib.hid (HA.out.below hb HA.out.lt)
          try replace HO := Lib.hid (HO.out.below hb HO.out.lt)
          clear hb
          have HO := Lib.hid hx
          clear hx hs
          generalize W.alloc (.cells (Array.replicate bn (.bool false)) 4) = W at *
          refine hK.out _ _ (fun _ => ⟨HG.out.cell 0, HG.out.cell 1, HG.out.cell 2, HG.out.cell 3, HG.out.cell 4, HG.out.cell 5⟩) ?_
          clear hK K
          try simp only [Act.put, List.setIfInBounds_toArray, List.set_cons_zero, List.set_cons_succ]
          refine wpAnyC_takeQ (i := 9) (oi := _) (v := .agg #[.slice vc.ba bn vc.bc, .slice zA bn zc, .slice (some ⟨a6, 0, none⟩) bn bn, .slice (some ⟨a8, 0, none⟩) bn bn, I 0]) rfl (by kernel_rfl) (by kernel_rfl) (by kernel_rfl) (by kernel_rfl) (fun _ _ _ h => h) (Or.inl ⟨by rfl, ?_⟩) (by kernel_rfl) ?_
          · intro w _
            go_simp
          try simp only [Act.put, List.setIfInBounds_toArray]
          refine wpAnyC_one (i := 10) (by kernel_rfl) rfl (fun K hK => ?_)
          go_simp
          have HW := Lib.hid (show WS (W.alloc (.cells #[.slice vc.ba bn vc.bc, .slice zA bn zc, .slice (some ⟨a6, 0, none⟩) bn bn, .slice (some ⟨a8, 0, none⟩) bn bn, I 0] 64)) w.heap.size ⟨W.heap.size, vc.ba, vc.bc, zA, zc, a6, a8⟩ n.branches (List.replicate n.branches.length rt0) 0 from wat_new HBN.out HB.out HR.out HZ.out HA.out HAG.out HO.out HOG.out)
          have HBF := Lib.hid (HB.out.trans ((below_new W (.cells #[.slice vc.ba bn vc.bc, .slice zA bn zc, .slice (some ⟨a6, 0, none⟩) bn bn, .slice (some ⟨a8, 0, none⟩) bn bn, I 0] 64)).mono HB.out.size))
          refine hK.out _ _ (fun h => absurd h (by decide)) ?_
          clear hK K
          try simp only [Act.put, List.setIfInBounds_toArray, List.set_cons_zero, List.set_cons_succ]
          refine wpAnyC_one (i := 11) (by kernel_rfl) rfl (fun K hK => ?_)
          go_simp
          refine hK.out _ _ (fun h => absurd h (by decide)) ?_
          clear hK K
          try simp only [Act.put, List.setIfInBounds_toArray, List.set_cons_zero, List.set_cons_succ]
          refine wpAnyC_one (i := 12) (by kernel_rfl) rfl (fun K hK => ?_)
          go_simp
          refine hK.out _ _ (fun h => absurd h (by decide)) ?_
          clear hK K
          try simp only [Act.put, List.setIfInBounds_toArray, List.set_cons_zero, List.set_cons_succ]
          refine wpAnyC_done (by kernel_rfl) ?_ _
          go_wp2
          go_ret2
          exact rnew_end HE.out HW.out HBF.out
        refine AllC.cons rfl (fun K hK => ?_) AllC.nil
        go_simp
        have hb := below_new W (.cells (Array.replicate bn (.bool false)) 4)
        have hx := Blk.new W 4 (Array.replicate bn (.bool false))
        have hs := HB.out.size
        obtain ⟨a8, ha8⟩ : ∃ a8, W.heap.size = a8 := ⟨_, rfl⟩
        rw [ha8] at hx hs ⊢
        clear ha8
        have HOG := Lib.hid hs
        replace HG := Lib.hid (HG.out.below hb HG.out.lt)
        replace HN := Lib.hid (HN.out.below hb)
        replace HB := Lib.hid (HB.out.trans (hb.mono HB.out.size))
        try replace HR := Lib.hid (fun k => (HR.out k).call hb)
        try replace HZ := Lib.hid (HZ.out.call hb)
        try replace HA := Lib.hid (HA.out.below hb HA.out.lt)
        try replace HO := Lib.hid (HO.out.below hb HO.out.lt)
        clear hb
        have HO := Lib.hid hx
        clear hx hs
        generalize W.alloc (.cells (Array.replicate bn (.bool false)) 4) = W at *
        refine hK.out _ _ (fun _ => ⟨HG.out.cell 0, HG.out.cell 1, HG.out.cell 2, HG.out.cell 3, HG.out.cell 4, HG.out.cell 5⟩) ?_
        clear hK K
        try simp only [Act.put, List.setIfInBounds_toArray, List.set_cons_zero, List.set_cons_succ]
        refine wpAnyC_all (l := [6]) (by kernel_rfl) rfl ?_
        refine AllC.cons rfl (fun K hK => ?_) AllC.nil
        go_simp
        have hb := below_new W (.cells (Array.replicate bn (I 0)) 3)
        have hx := Blk.new W 3 (Array.replicate bn (I 0))
        have hs := HB.out.size
        obtain ⟨a6, ha6⟩ : ∃ a6, W.heap.size = a6 := ⟨_, rfl⟩
        rw [ha6] at hx hs ⊢
        clear ha6
        have HAG := Lib.hid hs
        replace HG := Lib.hid (HG.out.below hb HG.out.lt)
        replace HN := Lib.hid (HN.out.below hb)
        replace HB := Lib.hid (HB.out.trans (hb.mono HB.out.size))
        try replace HR := Lib.hid (fun k => (HR.out k).call hb)
        try replace HZ := Lib.hid (HZ.out.call hb)
        try replace HA := Lib.hid (HA.out.below hb HA.out.lt)
        try replace HO := Lib.hid (HO.out.below hb HO.out.lt)
        clear hb
        have HA := Lib.hid hx
        clear hx hs
        generalize W.alloc (.cells (Array.replicate bn (I 0)) 3) = W at *
        refine hK.out _ _ (fun _ => ⟨HG.out.cell 0, HG.out.cell 1, HG.out.cell 2, HG.out.cell 3, HG.out.cell 4, HG.out.cell 5⟩) ?_
        clear hK K
        try simp only [Act.put, List.setIfInBounds_toArray, List.set_cons_zero, List.set_cons_succ]
        refine wpAnyC_takeQ (i := 9) (oi := _) (v := .agg #[.slice vc.ba bn vc.bc, .slice zA bn zc, .slice (some ⟨a6, 0, none⟩) bn bn, .slice (some ⟨a8, 0, none⟩) bn bn, I 0]) rfl (by kernel_rfl) (by kernel_rfl) (by kernel_rfl) (by kernel_rfl) (fun _ _ _ h => h) (Or.inl ⟨by rfl, ?_⟩) (by kernel_rfl) ?_
        · intro w _
          go_simp
        try simp only [Act.put, List.setIfInBounds_toArray]
        refine wpAnyC_one (i := 10) (by kernel_rfl) rfl (fun K hK => ?_)
        go_simp
        have HW := Lib.hid (show WS (W.alloc (.cells #[.slice vc.ba bn vc.bc, .slice zA bn zc, .slice (some ⟨a6, 0, none⟩) bn bn, .slice (some ⟨a8, 0, none⟩) bn bn, I 0] 64)) w.heap.size ⟨W.heap.size, vc.ba, vc.bc, zA, zc, a6, a8⟩ n.branches (List.replicate n.branches.length rt0) 0 from wat_new HBN.out HB.out HR.out HZ.out HA.out HAG.out HO.out HOG.out)
        have HBF := Lib.hid (HB.out.trans ((below_new W (.cells #[.slice vc.ba bn vc.bc, .slice zA bn zc, .slice (some ⟨a6, 0, none⟩) bn bn, .slice (some ⟨a8, 0, none⟩) bn bn, I 0] 64)).mono HB.out.size))
        refine hK.out _ _ (fun h => absurd h (by decide)) ?_
        clear hK K
        try simp only [Act.put, List.setIfInBounds_toArray, List.set_cons_zero, List.set_cons_succ]
        refine wpAnyC_one (i := 11) (by kernel_rfl) rfl (fun K hK => ?_)
        go_simp
        refine hK.out _ _ (fun h => absurd h (by decide)) ?_
        clear hK K
        try simp only [Act.put, List.setIfInBounds_toArray, List.set_cons_zero, List.set_cons_succ]
        refine wpAnyC_one (i := 12) (by kernel_rfl) rfl (fun K hK => ?_)
        go_simp
        refine hK.out _ _ (fun h => absurd h (by decide)) ?_
        clear hK K
        try simp only [Act.put, List.setIfInBounds_toArray, List.set_cons_zero, List.set_cons_succ]
        refine wpAnyC_done (by kernel_rfl) ?_ _
        go_wp2
        go_ret2
        exact rnew_end HE.out HW.out HBF.out
      refine AllC.cons rfl (fun K hK => ?_) ?_
      · go_simp
        have hb := below_new W (.cells (Array.replicate bn (I 0)) 3)
        have hx := Blk.new W 3 (Array.replicate bn (I 0))
        have hs := HB.out.size
        obtain ⟨a6, ha6⟩ : ∃ a6, W.heap.size = a6 := ⟨_, rfl⟩
        rw [ha6] at hx hs ⊢
        clear ha6
        have HAG := Lib.hid hs
        replace HG := Lib.hid (HG.out.below hb HG.out.lt)
        replace HN := Lib.hid (HN.out.below hb)
        replace HB := Lib.hid (HB.out.trans (hb.mono HB.out.size))
        try replace HR := Lib.hid (fun k => (HR.out k).call hb)
        try replace HZ := Lib.hid (HZ.out.call hb)
        try replace HA := Lib.hid (HA.out.below hb HA.out.lt)
        try replace HO := Lib.hid (HO.out.below hb HO.out.lt)
        clear hb
        have HA := Lib.hid hx
        clear hx hs
        generalize W.alloc (.cells (Array.replicate bn (I 0)) 3) = W at *
        refine hK.out _ _ (fun _ => ⟨HG.out.cell 0, HG.out.cell 1, HG.out.cell 2, HG.out.cell 3, HG.out.cell 4, HG.out.cell 5⟩) ?_
        clear hK K
        try simp only [Act.put, List.setIfInBounds_toArray, List.set_cons_zero, List.set_cons_succ]
        refine wpAnyC_all (l := [4, 8]) (by kernel_rfl) rfl ?_
        refine AllC.cons rfl (fun K hK => ?_) ?_
        · go_simp
          go_at_call 23
          refine (HZC.out _).mono ?_
          rintro e W ⟨vz, rfl, hrow, hb⟩
          have hs := HB.out.size
          replace HG := Lib.hid (HG.out.below hb HG.out.lt)
          replace HN := Lib.hid (HN.out.below hb)
          replace HB := Lib.hid (HB.out.trans (hb.mono HB.out.size))
          try replace HR := Lib.hid (fun k => (HR.out k).call hb)
          try replace HZ := Lib.hid (HZ.out.call hb)
          try replace HA := Lib.hid (HA.out.below hb HA.out.lt)
          try replace HO := Lib.hid (HO.out.below hb HO.out.lt)
          clear hb
          replace hrow := hrow.less hs
          obtain ⟨zA, zc, rfl⟩ := hrow.val
          rw [List.length_replicate] at hrow ⊢
          have HZ := Lib.hid hrow
          clear hrow hs
          refine hK.out _ _ (fun h => absurd h (by decide)) ?_
          clear hK K
          try simp only [Act.put, List.setIfInBounds_toArray, List.set_cons_zero, List.set_cons_succ]
          refine wpAnyC_all (l := [8]) (by kernel_rfl) rfl ?_
          refine AllC.cons rfl (fun K hK => ?_) AllC.nil
          go_simp
          have hb := below_new W (.cells (Array.replicate bn (.bool false)) 4)
          have hx := Blk.new W 4 (Array.replicate bn (.bool false))
          have hs := HB.out.size
          obtain ⟨a8, ha8⟩ : ∃ a8, W.heap.size = a8 := ⟨_, rfl⟩
          rw [ha8] at hx hs ⊢
          clear ha8
          have HOG := Lib.hid hs
          replace HG := Lib.hid (HG.out.below hb HG.out.lt)
          replace HN := Lib.hid (HN.out.below hb)
          replace HB := Lib.hid (HB.out.trans (hb.mono HB.out.size))
          try replace HR := Lib.hid (fun k => (HR.out k).call hb)
          try replace HZ := Lib.hid (HZ.out.call hb)
          try replace HA := Lib.hid (HA.out.below hb HA.out.lt)
          try replace HO := Lib.hid (HO.out.below hb HO.out.lt)
          clear hb
          have HO := Lib.hid hx
          clear hx hs
          generalize W.alloc (.cells (Array.replicate bn (.bool false)) 4) = W at *
          refine hK.out _ _ (fun _ => ⟨HG.out.cell 0, HG.out.cell 1, HG.out.cell 2, HG.out.cell 3, HG.out.cell 4, HG.out.cell 5⟩) ?_
          clear hK K
          try simp only [Act.put, List.setIfInBounds_toArray, List.set_cons_zero, List.set_cons_succ]
          refine wpAnyC_takeQ (i := 9) (oi := _) (v := .agg #[.slice vc.ba bn vc.bc, .slice zA bn zc, .slice (some ⟨a6, 0, none⟩) bn bn, .slice (some ⟨a8, 0, none⟩) bn bn, I 0]) rfl (by kernel_rfl) (by kernel_rfl) (by kernel_rfl) (by kernel_rfl) (fun _ _ _ h => h) (Or.inl ⟨by rfl, ?_⟩) (by kernel_rfl) ?_
          · intro w _
            go_simp
          try simp only [Act.put, List.setIfInBounds_toArray]
          refine wpAnyC_one (i := 10) (by kernel_rfl) rfl (fun K hK => ?_)
          go_simp
          have HW := Lib.hid (show WS (W.alloc (.cells #[.slice vc.ba bn vc.bc, .slice zA bn zc, .slice (some ⟨a6, 0, none⟩) bn bn, .slice (some ⟨a8, 0, none⟩) bn bn, I 0] 64)) w.heap.size ⟨W.heap.size, vc.ba, vc.bc, zA, zc, a6, a8⟩ n.branches (List.replicate n.branches.length rt0) 0 from wat_new HBN.out HB.out HR.out HZ.out HA.out HAG.out HO.out HOG.out)
          have HBF := Lib.hid (HB.out.trans ((below_new W (.cells #[.slice vc.ba bn vc.bc, .slice zA bn zc, .slice (some ⟨a6, 0, none⟩) bn bn, .slice (some ⟨a8, 0, none⟩) bn bn, I 0] 64)).mono HB.out.size))
          refine hK.out _ _ (fun h => absurd h (by decide)) ?_
          clear hK K
          try simp only [Act.put, List.setIfInBounds_toArray, List.set_cons_zero, List.set_cons_succ]
          refine wpAnyC_one (i := 11) (by kernel_rfl) rfl (fun K hK => ?_)
          go_simp
          refine hK.out _ _ (fun h => absurd h (by decide)) ?_
          clear hK K
          try simp only [Act.put, List.setIfInBounds_toArray, List.set_cons_zero, List.set_cons_succ]
          refine wpAnyC_one (i := 12) (by kernel_rfl) rfl (fun K hK => ?_)
          go_simp
          refine hK.out _ _ (fun h => absurd h (by decide)) ?_
          clear hK K
          try simp only [Act.put, List.setIfInBounds_toArray, List.set_cons_zero, List.set_cons_succ]
          refine wpAnyC_done (by kernel_rfl) ?_ _
          go_wp2
          go_ret2
          exact rnew_end HE.out HW.out HBF.out
        refine AllC.cons rfl (fun K hK => ?_) AllC.nil
        go_simp
        have hb := below_new W (.cells (Array.replicate bn (.bool false)) 4)
        have hx := Blk.new W 4 (Array.replicate bn (.bool false))
        have hs := HB.out.size
        obtain ⟨a8, ha8⟩ : ∃ a8, W.heap.size = a8 := ⟨_, rfl⟩
        rw [ha8] at hx hs ⊢
        clear ha8
        have HOG := Lib.hid hs
        replace HG := Lib.hid (HG.out.below hb HG.out.lt)
        replace HN := Lib.hid (HN.out.below hb)
        replace HB := Lib.hid (HB.out.trans (hb.mono HB.out.size))
        try replace HR := Lib.hid (fun k => (HR.out k).call hb)
        try replace HZ := Lib.hid (HZ.out.call hb)
        try replace HA := Lib.hid (HA.out.below hb HA.out.lt)
        try replace HO := Lib.hid (HO.out.below hb HO.out.lt)
        clear hb
        have HO := Lib.hid hx
        clear hx hs
        generalize W.alloc (.cells (Array.replicate bn (.bool false)) 4) = W at *
        refine hK.out _ _ (fun _ => ⟨HG.out.cell 0, HG.out.cell 1, HG.out.cell 2, HG.out.cell 3, HG.out.cell 4, HG.out.cell 5⟩) ?_
        clear hK K
        try simp only [Act.put, List.setIfInBounds_toArray, List.set_cons_zero, List.set_cons_succ]
        refine wpAnyC_all (l := [4]) (by kernel_rfl) rfl ?_
        refine AllC.cons rfl (fun K hK => ?_) AllC.nil
        go_simp
        go_at_call 23
        refine (HZC.out _).mono ?_
        rintro e W ⟨vz, rfl, hrow, hb⟩
        have hs := HB.out.size
        replace HG := Lib.hid (HG.out.below hb HG.out.lt)
        replace HN := Lib.hid (HN.out.below hb)
        replace HB := Lib.hid (HB.out.trans (hb.mono HB.out.size))
        try replace HR := Lib.hid (fun k => (HR.out k).call hb)
        try replace HZ := Lib.hid (HZ.out.call hb)
        try replace HA := Lib.hid (HA.out.below hb HA.out.lt)
        try replace HO := Lib.hid (HO.out.below hb HO.out.lt)
        clear hb
        replace hrow := hrow.less hs
        obtain ⟨zA, zc, rfl⟩ := hrow.val
        rw [List.length_replicate] at hrow ⊢
        have HZ := Lib.hid hrow
        clear hrow hs
        refine hK.out _ _ (fun h => absurd h (by decide)) ?_
        clear hK K
        try simp only [Act.put, List.setIfInBounds_toArray, List.set_cons_zero, List.set_cons_succ]
        refine wpAnyC_takeQ (i := 9) (oi := _) (v := .agg #[.slice vc.ba bn vc.bc, .slice zA bn zc, .slice (some ⟨a6, 0, none⟩) bn bn, .slice (some ⟨a8, 0, none⟩) bn bn, I 0]) rfl (by kernel_rfl) (by kernel_rfl) (by kernel_rfl) (by kernel_rfl) (fun _ _ _ h => h) (Or.inl ⟨by rfl, ?_⟩) (by kernel_rfl) ?_
        · intro w _
          go_simp
        try simp only [Act.put, List.setIfInBounds_toArray]
        refine wpAnyC_one (i := 10) (by kernel_rfl) rfl (fun K hK => ?_)
        go_simp
        have HW := Lib.hid (show WS (W.alloc (.cells #[.slice vc.ba bn vc.bc, .slice zA bn zc, .slice (some ⟨a6, 0, none⟩) bn bn, .slice (some ⟨a8, 0, none⟩) bn bn, I 0] 64)) w.heap.size ⟨W.heap.size, vc.ba, vc.bc, zA, zc, a6, a8⟩ n.branches (List.replicate n.branches.length rt0) 0 from wat_new HBN.out HB.out HR.out HZ.out HA.out HAG.out HO.out HOG.out)
        have HBF := Lib.hid (HB.out.trans ((below_new W (.cells #[.slice vc.ba bn vc.bc, .slice zA bn zc, .slice (some ⟨a6, 0, none⟩) bn bn, .slice (some ⟨a8, 0, none⟩) bn bn, I 0] 64)).mono HB.out.size))
        refine hK.out _ _ (fun h => absurd h (by decide)) ?_
        clear hK K
        try simp only [Act.put, List.setIfInBounds_toArray, List.set_cons_zero, List.set_cons_succ]
        refine wpAnyC_one (i := 11) (by kernel_rfl) rfl (fun K hK => ?_)
        go_simp
        refine hK.out _ _ (fun h => absurd h (by decide)) ?_
        clear hK K
        try simp only [Act.put, List.setIfInBounds_toArray, List.set_cons_zero, List.set_cons_succ]
        refine wpAnyC_one (i := 12) (by kernel_rfl) rfl (fun K hK => ?_)
        go_simp
        refine hK.out _ _ (fun h => absurd h (by decide)) ?_
        clear hK K
        try simp only [Act.put, List.setIfInBounds_toArray, List.set_cons_zero, List.set_cons_succ]
        refine wpAnyC_done (by kernel_rfl) ?_ _
        go_wp2
        go_ret2
        exact rnew_end HE.out HW.out HBF.out
      refine AllC.cons rfl (fun K hK => ?_) AllC.nil
      go_simp
      have hb := below_new W (.cells (Array.replicate bn (.bool false)) 4)
      have hx := Blk.new W 4 (Array.replicate bn (.bool false))
      have hs := HB.out.size
      obtain ⟨a8, ha8⟩ : ∃ a8, W.heap.size = a8 := ⟨_, rfl⟩
      rw [ha8] at hx hs ⊢
      clear ha8
      have HOG := Lib.hid hs
      replace HG := Lib.hid (HG.out.below hb HG.out.lt)
      replace HN := Lib.hid (HN.out.below hb)
      replace HB := Lib.hid (HB.out.trans (hb.mono HB.out.size))
      try replace HR := Lib.hid (fun k => (HR.out k).call hb)
      try replace HZ := Lib.hid (HZ.out.call hb)
      try replace HA := Lib.hid (HA.out.below hb HA.out.lt)
      try replace HO := Lib.hid (HO.out.below hb HO.out.lt)
      clear hb
      have HO := Lib.hid hx
      clear hx hs
      generalize W.alloc (.cells (Array.replicate bn (.bool false)) 4) = W at *
      refine hK.out _ _ (fun _ => ⟨HG.out.cell 0, HG.out.cell 1, HG.out.cell 2, HG.out.cell 3, HG.out.cell 4, HG.out.cell 5⟩) ?_
      clear hK K
      try simp only [Act.put, List.setIfInBounds_toArray, List.set_cons_zero, List.set_cons_succ]
      refine wpAnyC_all (l := [4, 6]) (by kernel_rfl) rfl ?_
      refine AllC.cons rfl (fun K hK => ?_) ?_
      · go_simp
        go_at_call 23
        refine (HZC.out _).mono ?_
        rintro e W ⟨vz, rfl, hrow, hb⟩
        have hs := HB.out.size
        replace HG := Lib.hid (HG.out.below hb HG.out.lt)
        replace HN := Lib.hid (HN.out.below hb)
        replace HB := Lib.hid (HB.out.trans (hb.mono HB.out.size))
        try replace HR := Lib.hid (fun k => (HR.out k).call hb)
        try replace HZ := Lib.hid (HZ.out.call hb)
        try replace HA := Lib.hid (HA.out.below hb HA.out.lt)
        try replace HO := Lib.hid (HO.out.below hb HO.out.lt)
        clear hb
        replace hrow := hrow.less hs
        obtain ⟨zA, zc, rfl⟩ := hrow.val
        rw [List.length_replicate] at hrow ⊢
        have HZ := Lib.hid hrow
        clear hrow hs
        refine hK.out _ _ (fun h => absurd h (by decide)) ?_
        clear hK K
        try simp only [Act.put, List.setIfInBounds_toArray, List.set_cons_zero, List.set_cons_succ]
        refine wpAnyC_all (l := [6]) (by kernel_rfl) rfl ?_
        refine AllC.cons rfl (fun K hK => ?_) AllC.nil
        go_simp
        have hb := below_new W (.cells (Array.replicate bn (I 0)) 3)
        have hx := Blk.new W 3 (Array.replicate bn (I 0))
        have hs := HB.out.size
        obtain ⟨a6, ha6⟩ : ∃ a6, W.heap.size = a6 := ⟨_, rfl⟩
        rw [ha6] at hx hs ⊢
        clear ha6
        have HAG := Lib.hid hs
        replace HG := Lib.hid (HG.out.below hb HG.out.lt)
        replace HN := Lib.hid (HN.out.below hb)
        replace HB := Lib.hid (HB.out.trans (hb.mono HB.out.size))
        try replace HR := Lib.hid (fun k => (HR.out k).call hb)
        try replace HZ := Lib.hid (HZ.out.call hb)
        try replace HA := Lib.hid (HA.out.below hb HA.out.lt)
        try replace HO := Lib.hid (HO.out.below hb HO.out.lt)
        clear hb
        have HA := Lib.hid hx
        clear hx hs
        generalize W.alloc (.cells (Array.replicate bn (I 0)) 3) = W at *
        refine hK.out _ _ (fun _ => ⟨HG.out.cell 0, HG.out.cell 1, HG.out.cell 2, HG.out.cell 3, HG.out.cell 4, HG.out.cell 5⟩) ?_
        clear hK K
        try simp only [Act.put, List.setIfInBounds_toArray, List.set_cons_zero, List.set_cons_succ]
        refine wpAnyC_takeQ (i := 9) (oi := _) (v := .agg #[.slice vc.ba bn vc.bc, .slice zA bn zc, .slice (some ⟨a6, 0, none⟩) bn bn, .slice (some ⟨a8, 0, none⟩) bn bn, I 0]) rfl (by kernel_rfl) (by kernel_rfl) (by kernel_rfl) (by kernel_rfl) (fun _ _ _ h => h) (Or.inl ⟨by rfl, ?_⟩) (by kernel_rfl) ?_
        · intro w _
          go_simp
        try simp only [Act.put, List.setIfInBounds_toArray]
        refine wpAnyC_one (i := 10) (by kernel_rfl) rfl (fun K hK => ?_)
        go_simp
        have HW := Lib.hid (show WS (W.alloc (.cells #[.slice vc.ba bn vc.bc, .slice zA bn zc, .slice (some ⟨a6, 0, none⟩) bn bn, .slice (some ⟨a8, 0, none⟩) bn bn, I 0] 64)) w.heap.size ⟨W.heap.size, vc.ba, vc.bc, zA, zc, a6, a8⟩ n.branches (List.replicate n.branches.length rt0) 0 from wat_new HBN.out HB.out HR.out HZ.out HA.out HAG.out HO.out HOG.out)
        have HBF := Lib.hid (HB.out.trans ((below_new W (.cells #[.slice vc.ba bn vc.bc, .slice zA bn zc, .slice (some ⟨a6, 0, none⟩) bn bn, .slice (some ⟨a8, 0, none⟩) bn bn, I 0] 64)).mono HB.out.size))
        refine hK.out _ _ (fun h => absurd h (by decide)) ?_
        clear hK K
        try simp only [Act.put, List.setIfInBounds_toArray, List.set_cons_zero, List.set_cons_succ]
        refine wpAnyC_one (i := 11) (by kernel_rfl) rfl (fun K hK => ?_)
        go_simp
        refine hK.out _ _ (fun h => absurd h (by decide)) ?_
        clear hK K
        try simp only [Act.put, List.setIfInBounds_toArray, List.set_cons_zero, List.set_cons_succ]
        refine wpAnyC_one (i := 12) (by kernel_rfl) rfl (fun K hK => ?_)
        go_simp
        refine hK.out _ _ (fun h => absurd h (by decide)) ?_
        clear hK K
        try simp only [Act.put, List.setIfInBounds_toArray, List.set_cons_zero, List.set_cons_succ]
        refine wpAnyC_done (by kernel_rfl) ?_ _
        go_wp2
        go_ret2
        exact rnew_end HE.out HW.out HBF.out
      refine AllC.cons rfl (fun K hK => ?_) AllC.nil
      go_simp
      have hb := below_new W (.cells (Array.replicate bn (I 0)) 3)
      have hx := Blk.new W 3 (Array.replicate bn (I 0))
      have hs := HB.out.size
      obtain ⟨a6, ha6⟩ : ∃ a6, W.heap.size = a6 := ⟨_, rfl⟩
      rw [ha6] at hx hs ⊢
      clear ha6
      have HAG := Lib.hid hs
      replace HG := Lib.hid (HG.out.below hb HG.out.lt)
      replace HN := Lib.hid (HN.out.below hb)
      replace HB := Lib.hid (HB.out.trans (hb.mono HB.out.size))
      try replace HR := Lib.hid (fun k => (HR.out k).call hb)
      try replace HZ := Lib.hid (HZ.out.call hb)
      try replace HA := Lib.hid (HA.out.below hb HA.out.lt)
      try replace HO := Lib.hid (HO.out.below hb HO.out.lt)
      clear hb
      have HA := Lib.hid hx
      clear hx hs
      generalize W.alloc (.cells (Array.replicate bn (I 0)) 3) = W at *
      refine hK.out _ _ (fun _ => ⟨HG.out.cell 0, HG.out.cell 1, HG.out.cell 2, HG.out.cell 3, HG.out.cell 4, HG.out.cell 5⟩) ?_
      clear hK K
      try simp only [Act.put, List.setIfInBounds_toArray, List.set_cons_zero, List.set_cons_succ]
      refine wpAnyC_all (l := [4]) (by kernel_rfl) rfl ?_
      refine AllC.cons rfl (fun K hK => ?_) AllC.nil
      go_simp
      go_at_call 23
      refine (HZC.out _).mono ?_
      rintro e W ⟨vz, rfl, hrow, hb⟩
      have hs := HB.out.size
      replace HG := Lib.hid (HG.out.below hb HG.out.lt)
      replace HN := Lib.hid (HN.out.below hb)
      replace HB := Lib.hid (HB.out.trans (hb.mono HB.out.size))
      try replace HR := Lib.hid (fun k => (HR.out k).call hb)
      try replace HZ := Lib.hid (HZ.out.call hb)
      try replace HA := Lib.hid (HA.out.below hb HA.out.lt)
      try replace HO := Lib.hid (HO.out.below hb HO.out.lt)
      clear hb
      replace hrow := hrow.less hs
      obtain ⟨zA, zc, rfl⟩ := hrow.val
      rw [List.length_replicate] at hrow ⊢
      have HZ := Lib.hid hrow
      clear hrow hs
      refine hK.out _ _ (fun h => absurd h (by decide)) ?_
      clear hK K
      try simp only [Act.put, List.setIfInBounds_toArray, List.set_cons_zero, List.set_cons_succ]
      refine wpAnyC_takeQ (i := 9) (oi := _) (v := .agg #[.slice vc.ba bn vc.bc, .slice zA bn zc, .slice (some ⟨a6, 0, none⟩) bn bn, .slice (some ⟨a8, 0, none⟩) bn bn, I 0]) rfl (by kernel_rfl) (by kernel_rfl) (by kernel_rfl) (by kernel_rfl) (fun _ _ _ h => h) (Or.inl ⟨by rfl, ?_⟩) (by kernel_rfl) ?_
      · intro w _
        go_simp
      try simp only [Act.put, List.setIfInBounds_toArray]
      refine wpAnyC_one (i := 10) (by kernel_rfl) rfl (fun K hK => ?_)
      go_simp
      have HW := Lib.hid (show WS (W.alloc (.cells #[.slice vc.ba bn vc.bc, .slice zA bn zc, .slice (some ⟨a6, 0, none⟩) bn bn, .slice (some ⟨a8, 0, none⟩) bn bn, I 0] 64)) w.heap.size ⟨W.heap.size, vc.ba, vc.bc, zA, zc, a6, a8⟩ n.branches (List.replicate n.branches.length rt0) 0 from wat_new HBN.out HB.out HR.out HZ.out HA.out HAG.out HO.out HOG.out)
      have HBF := Lib.hid (HB.out.trans ((below_new W (.cells #[.slice vc.ba bn vc.bc, .slice zA bn zc, .slice (some ⟨a6, 0, none⟩) bn bn, .slice (some ⟨a8, 0, none⟩) bn bn, I 0] 64)).mono HB.out.size))
      refine hK.out _ _ (fun h => absurd h (by decide)) ?_
      clear hK K
      try simp only [Act.put, List.setIfInBounds_toArray, List.set_cons_zero, List.set_cons_succ]
      refine wpAnyC_one (i := 11) (by kernel_rfl) rfl (fun K hK => ?_)
      go_simp
      refine hK.out _ _ (fun h => absurd h (by decide)) ?_
      clear hK K
      try simp only [Act.put, List.setIfInBounds_toArray, List.set_cons_zero, List.set_cons_succ]
      refine wpAnyC_one (i := 12) (by kernel_rfl) rfl (fun K hK => ?_)
      go_simp
      refine hK.out _ _ (fun h => absurd h (by decide)) ?_
      clear hK K
      try simp only [Act.put, List.setIfInBounds_toArray, List.set_cons_zero, List.set_cons_succ]
      refine wpAnyC_done (by kernel_rfl) ?_ _
      go_wp2
      go_ret2
      exact rnew_end HE.out HW.out HBF.out
    refine AllC.cons rfl (fun K hK => ?_) ?_
    · go_simp
      have hb := below_new W (.cells (Array.replicate bn (I 0)) 3)
      have hx := Blk.new W 3 (Array.replicate bn (I 0))
      have hs := HB.out.size
      obtain ⟨a6, ha6⟩ : ∃ a6, W.heap.size = a6 := ⟨_, rfl⟩
      rw [ha6] at hx hs ⊢
      clear ha6
      have HAG := Lib.hid hs
      replace HG := Lib.hid (HG.out.below hb HG.out.lt)
      replace HN := Lib.hid (HN.out.below hb)
      replace HB := Lib.hid (HB.out.trans (hb.mono HB.out.size))
      try replace HR := Lib.hid (fun k => (HR.out k).call hb)
      try replace HZ := Lib.hid (HZ.out.call hb)
      try replace HA := Lib.hid (HA.out.below hb HA.out.lt)
      try replace HO := Lib.hid (HO.out.below hb HO.out.lt)
      clear hb
      have HA := Lib.hid hx
      clear hx hs
      generalize W.alloc (.cells (Array.replicate bn (I 0)) 3) = W at *
      refine hK.out _ _ (fun _ => ⟨HG.out.cell 0, HG.out.cell 1, HG.out.cell 2, HG.out.cell 3, HG.out.cell 4, HG.out.cell 5⟩) ?_
      clear hK K
      try simp only [Act.put, List.setIfInBounds_toArray, List.set_cons_zero, List.set_cons_succ]
      refine wpAnyC_all (l := [1, 8]) (by kernel_rfl) rfl ?_
      refine AllC.cons rfl (fun K hK => ?_) ?_
      · go_simp
        go_at_call 22
        refine (HCP.out _ HN.out.net).mono ?_
        rintro e W ⟨vc, rfl, _, hrows, hb⟩
        have hs := HB.out.size
        replace HG := Lib.hid (HG.out.below hb HG.out.lt)
        replace HN := Lib.hid (HN.out.below hb)
        replace HB := Lib.hid (HB.out.trans (hb.mono HB.out.size))
        try replace HR := Lib.hid (fun k => (HR.out k).call hb)
        try replace HZ := Lib.hid (HZ.out.call hb)
        try replace HA := Lib.hid (HA.out.below hb HA.out.lt)
        try replace HO := Lib.hid (HO.out.below hb HO.out.lt)
        clear hb
        have HR := Lib.hid (fun k => (hrows.r2 k).less hs)
        unfold NetV.val NetV.parts
        clear hrows hs
        rw [HBN.out] at HR
        refine hK.out _ _ (fun h => absurd h (by decide)) ?_
        clear hK K
        try simp only [Act.put, List.setIfInBounds_toArray, List.set_cons_zero, List.set_cons_succ]
        refine wpAnyC_takeQ (i := 2) (oi := _) (v := .slice vc.ba bn vc.bc) rfl (by kernel_rfl) (by kernel_rfl) (by kernel_rfl) (by kernel_rfl) (fun _ _ _ h => h) (Or.inl ⟨by rfl, ?_⟩) (by kernel_rfl) ?_
        · intro w _
          go_simp
          rw [HBN.out, fld2]
          rfl
        try simp only [Act.put, List.setIfInBounds_toArray]
        refine wpAnyC_all (l := [4, 8]) (by kernel_rfl) rfl ?_
        refine AllC.cons rfl (fun K hK => ?_) ?_
        · go_simp
          go_at_call 23
          refine (HZC.out _).mono ?_
          rintro e W ⟨vz, rfl, hrow, hb⟩
          have hs := HB.out.size
          replace HG := Lib.hid (HG.out.below hb HG.out.lt)
          replace HN := Lib.hid (HN.out.below hb)
          replace HB := Lib.hid (HB.out.trans (hb.mono HB.out.size))
          try replace HR := Lib.hid (fun k => (HR.out k).call hb)
          try replace HZ := Lib.hid (HZ.out.call hb)
          try replace HA := Lib.hid (HA.out.below hb HA.out.lt)
          try replace HO := Lib.hid (HO.out.below hb HO.out.lt)
          clear hb
          replace hrow := hrow.less hs
          obtain ⟨zA, zc, rfl⟩ := hrow.val
          rw [List.length_replicate] at hrow ⊢
          have HZ := Lib.hid hrow
          clear hrow hs
          refine hK.out _ _ (fun h => absurd h (by decide)) ?_
          clear hK K
          try simp only [Act.put, List.setIfInBounds_toArray, List.set_cons_zero, List.set_cons_succ]
          refine wpAnyC_all (l := [8]) (by kernel_rfl) rfl ?_
          refine AllC.cons rfl (fun K hK => ?_) AllC.nil
          go_simp
          have hb := below_new W (.cells (Array.replicate bn (.bool false)) 4)
          have hx := Blk.new W 4 (Array.replicate bn (.bool false))
          have hs := HB.out.size
          obtain ⟨a8, ha8⟩ : ∃ a8, W.heap.size = a8 := ⟨_, rfl⟩
          rw [ha8] at hx hs ⊢
          clear ha8
          have HOG := Lib.hid hs
          replace HG := Lib.hid (HG.out.below hb HG.out.lt)
          replace HN := Lib.hid (HN.out.below hb)
          replace HB := Lib.hid (HB.out.trans (hb.mono HB.out.size))
          try replace HR := Lib.hid (fun k => (HR.out k).call hb)
          try replace HZ := Lib.hid (HZ.out.call hb)
          try replace HA := Lib.hid (HA.out.below hb HA.out.lt)
          try replace HO := Lib.hid (HO.out.below hb HO.out.lt)
          clear hb
          have HO := Lib.hid hx
          clear hx hs
          generalize W.alloc (.cells (Array.replicate bn (.bool false)) 4) = W at *
          refine hK.out _ _ (fun _ => ⟨HG.out.cell 0, HG.out.cell 1, HG.out.cell 2, HG.out.cell 3, HG.out.cell 4, HG.out.cell 5⟩) ?_
          clear hK K
          try simp only [Act.put, List.setIfInBounds_toArray, List.set_cons_zero, List.set_cons_succ]
          refine wpAnyC_takeQ (i := 9) (oi := _) (v := .agg #[.slice vc.ba bn vc.bc, .slice zA bn zc, .slice (some ⟨a6, 0, none⟩) bn bn, .slice (some ⟨a8, 0, none⟩) bn bn, I 0]) rfl (by kernel_rfl) (by kernel_rfl) (by kernel_rfl) (by kernel_rfl) (fun _ _ _ h => h) (Or.inl ⟨by rfl, ?_⟩) (by kernel_rfl) ?_
          · intro w _
            go_simp
          try simp only [Act.put, List.setIfInBounds_toArray]
          refine wpAnyC_one (i := 10) (by kernel_rfl) rfl (fun K hK => ?_)
          go_simp
          have HW := Lib.hid (show WS (W.alloc (.cells #[.slice vc.ba bn vc.bc, .slice zA bn zc, .slice (some ⟨a6, 0, none⟩) bn bn, .slice (some ⟨a8, 0, none⟩) bn bn, I 0] 64)) w.heap.size ⟨W.heap.size, vc.ba, vc.bc, zA, zc, a6, a8⟩ n.branches (List.replicate n.branches.length rt0) 0 from wat_new HBN.out HB.out HR.out HZ.out HA.out HAG.out HO.out HOG.out)
          have HBF := Lib.hid (HB.out.trans ((below_new W (.cells #[.slice vc.ba bn vc.bc, .slice zA bn zc, .slice (some ⟨a6, 0, none⟩) bn bn, .slice (some ⟨a8, 0, none⟩) bn bn, I 0] 64)).mono HB.out.size))
          refine hK.out _ _ (fun h => absurd h (by decide)) ?_
          clear hK K
          try simp only [Act.put, List.setIfInBounds_toArray, List.set_cons_zero, List.set_cons_succ]
          refine wpAnyC_one (i := 11) (by kernel_rfl) rfl (fun K hK => ?_)
          go_simp
          refine hK.out _ _ (fun h => absurd h (by decide)) ?_
          clear hK K
          try simp only [Act.put, List.setIfInBounds_toArray, List.set_cons_zero, List.set_cons_succ]
          refine wpAnyC_one (i := 12) (by kernel_rfl) rfl (fun K hK => ?_)
          go_simp
          refine hK.out _ _ (fun h => absurd h (by decide)) ?_
          clear hK K
          try simp only [Act.put, List.setIfInBounds_toArray, List.set_cons_zero, List.set_cons_succ]
          refine wpAnyC_done (by kernel_rfl) ?_ _
          go_wp2
          go_ret2
          exact rnew_end HE.out HW.out HBF.out
        refine AllC.cons rfl (fun K hK => ?_) AllC.nil
        go_simp
        have hb := below_new W (.cells (Array.replicate bn (.bool false)) 4)
        have hx := Blk.new W 4 (Array.replicate bn (.bool false))
        have hs := HB.out.size
        obtain ⟨a8, ha8⟩ : ∃ a8, W.heap.size = a8 := ⟨_, rfl⟩
        rw [ha8] at hx hs ⊢
        clear ha8
        have HOG := Lib.hid hs
        replace HG := Lib.hid (HG.out.below hb HG.out.lt)
        replace HN := Lib.hid (HN.out.below hb)
        replace HB := Lib.hid (HB.out.trans (hb.mono HB.out.size))
        try replace HR := Lib.hid (fun k => (HR.out k).call hb)
        try replace HZ := Lib.hid (HZ.out.call hb)
        try replace HA := Lib.hid (HA.out.below hb HA.out.lt)
        try replace HO := Lib.hid (HO.out.below hb HO.out.lt)
        clear hb
        have HO := Lib.hid hx
        clear hx hs
        generalize W.alloc (.cells (Array.replicate bn (.bool false)) 4) = W at *
        refine hK.out _ _ (fun _ => ⟨HG.out.cell 0, HG.out.cell 1, HG.out.cell 2, HG.out.cell 3, HG.out.cell 4, HG.out.cell 5⟩) ?_
        clear hK K
        try simp only [Act.put, List.setIfInBounds_toArray, List.set_cons_zero, List.set_cons_succ]
        refine wpAnyC_all (l := [4]) (by kernel_rfl) rfl ?_
        refine AllC.cons rfl (fun K hK => ?_) AllC.nil
        go_simp
        go_at_call 23
        refine (HZC.out _).mono ?_
        rintro e W ⟨vz, rfl, hrow, hb⟩
        have hs := HB.out.size
        replace HG := Lib.hid (HG.out.below hb HG.out.lt)
        replace HN := Lib.hid (HN.out.below hb)
        replace HB := Lib.hid (HB.out.trans (hb.mono HB.out.size))
        try replace HR := Lib.hid (fun k => (HR.out k).call hb)
        try replace HZ := Lib.hid (HZ.out.call hb)
        try replace HA := Lib.hid (HA.out.below hb HA.out.lt)
        try replace HO := Lib.hid (HO.out.below hb HO.out.lt)
        clear hb
        replace hrow := hrow.less hs
        obtain ⟨zA, zc, rfl⟩ := hrow.val
        rw [List.length_replicate] at hrow ⊢
        have HZ := Lib.hid hrow
        clear hrow hs
        refine hK.out _ _ (fun h => absurd h (by decide)) ?_
        clear hK K
        try simp only [Act.put, List.setIfInBounds_toArray, List.set_cons_zero, List.set_cons_succ]
        refine wpAnyC_takeQ (i := 9) (oi := _) (v := .agg #[.slice vc.ba bn vc.bc, .slice zA bn zc, .slice (some ⟨a6, 0, none⟩) bn bn, .slice (some ⟨a8, 0, none⟩) bn bn, I 0]) rfl (by kernel_rfl) (by kernel_rfl) (by kernel_rfl) (by kernel_rfl) (fun _ _ _ h => h) (Or.inl ⟨by rfl, ?_⟩) (by kernel_rfl) ?_
        · intro w _
          go_simp
        try simp only [Act.put, List.setIfInBounds_toArray]
        refine wpAnyC_one (i := 10) (by kernel_rfl) rfl (fun K hK => ?_)
        go_simp
        have HW := Lib.hid (show WS (W.alloc (.cells #[.slice vc.ba bn vc.bc, .slice zA bn zc, .slice (some ⟨a6, 0, none⟩) bn bn, .slice (some ⟨a8, 0, none⟩) bn bn, I 0] 64)) w.heap.size ⟨W.heap.size, vc.ba, vc.bc, zA, zc, a6, a8⟩ n.branches (List.replicate n.branches.length rt0) 0 from wat_new HBN.out HB.out HR.out HZ.out HA.out HAG.out HO.out HOG.out)
        have HBF := Lib.hid (HB.out.trans ((below_new W (.cells #[.slice vc.ba bn vc.bc, .slice zA bn zc, .slice (some ⟨a6, 0, none⟩) bn bn, .slice (some ⟨a8, 0, none⟩) bn bn, I 0] 64)).mono HB.out.size))
        refine hK.out _ _ (fun h => absurd h (by decide)) ?_
        clear hK K
        try simp only [Act.put, List.setIfInBounds_toArray, List.set_cons_zero, List.set_cons_succ]
        refine wpAnyC_one (i := 11) (by kernel_rfl) rfl (fun K hK => ?_)
        go_simp
        refine hK.out _ _ (fun h => absurd h (by decide)) ?_
        clear hK K
        try simp only [Act.put, List.setIfInBounds_toArray, List.set_cons_zero, List.set_cons_succ]
        refine wpAnyC_one (i := 12) (by kernel_rfl) rfl (fun K hK => ?_)
        go_simp
        refine hK.out _ _ (fun h => absurd h (by decide)) ?_
        clear hK K
        try simp only [Act.put, List.setIfInBounds_toArray, List.set_cons_zero, List.set_cons_succ]
        refine wpAnyC_done (by kernel_rfl) ?_ _
        go_wp2
        go_ret2
        exact rnew_end HE.out HW.out HBF.out
      refine AllC.cons rfl (fun K hK => ?_) AllC.nil
      go_simp
      have hb := below_new W (.cells (Array.replicate bn (.bool false)) 4)
      have hx := Blk.new W 4 (Array.replicate bn (.bool false))
      have hs := HB.out.size
      obtain ⟨a8, ha8⟩ : ∃ a8, W.heap.size = a8 := ⟨_, rfl⟩
      rw [ha8] at hx hs ⊢
      clear ha8
      have HOG := Lib.hid hs
      replace HG := Lib.hid (HG.out.below hb HG.out.lt)
      replace HN := Lib.hid (HN.out.below hb)
      replace HB := Lib.hid (HB.out.trans (hb.mono HB.out.size))
      try replace HR := Lib.hid (fun k => (HR.out k).call hb)
      try replace HZ := Lib.hid (HZ.out.call hb)
      try replace HA := Lib.hid (HA.out.below hb HA.out.lt)
      try replace HO := Lib.hid (HO.out.below hb HO.out.lt)
      clear hb
      have HO := Lib.hid hx
      clear hx hs
      generalize W.alloc (.cells (Array.replicate bn (.bool false)) 4) = W at *
      refine hK.out _ _ (fun _ => ⟨HG.out.cell 0, HG.out.cell 1, HG.out.cell 2, HG.out.cell 3, HG.out.cell 4, HG.out.cell 5⟩) ?_
      clear hK K
      try simp only [Act.put, List.setIfInBounds_toArray, List.set_cons_zero, List.set_cons_succ]
      refine wpAnyC_all (l := [1]) (by kernel_rfl) rfl ?_
      refine AllC.cons rfl (fun K hK => ?_) AllC.nil
      go_simp
      go_at_call 22
      refine (HCP.out _ HN.out.net).mono ?_
      rintro e W ⟨vc, rfl, _, hrows, hb⟩
      have hs := HB.out.size
      replace HG := Lib.hid (HG.out.below hb HG.out.lt)
      replace HN := Lib.hid (HN.out.below hb)
      replace HB := Lib.hid (HB.out.trans (hb.mono HB.out.size))
      try replace HR := Lib.hid (fun k => (HR.out k).call hb)
      try replace HZ := Lib.hid (HZ.out.call hb)
      try replace HA := Lib.hid (HA.out.below hb HA.out.lt)
      try replace HO := Lib.hid (HO.out.below hb HO.out.lt)
      clear hb
      have HR := Lib.hid (fun k => (hrows.r2 k).less hs)
      unfold NetV.val NetV.parts
      clear hrows hs
      rw [HBN.out] at HR
      refine hK.out _ _ (fun h => absurd h (by decide)) ?_
      clear hK K
      try simp only [Act.put, List.setIfInBounds_toArray, List.set_cons_zero, List.set_cons_succ]
      refine wpAnyC_takeQ (i := 2) (oi := _) (v := .slice vc.ba bn vc.bc) rfl (by kernel_rfl) (by kernel_rfl) (by kernel_rfl) (by kernel_rfl) (fun _ _ _ h => h) (Or.inl ⟨by rfl, ?_⟩) (by kernel_rfl) ?_
      · intro w _
        go_simp
        rw [HBN.out, fld2]
        rfl
      try simp only [Act.put, List.setIfInBounds_toArray]
      refine wpAnyC_all (l := [4]) (by kernel_rfl) rfl ?_
      refine AllC.cons rfl (fun K hK => ?_) AllC.nil
      go_simp
      go_at_call 23
      refine (HZC.out _).mono ?_
      rintro e W ⟨vz, rfl, hrow, hb⟩
      have hs := HB.out.size
      replace HG := Lib.hid (HG.out.below hb HG.out.lt)
      replace HN := Lib.hid (HN.out.below hb)
      replace HB := Lib.hid (HB.out.trans (hb.mono HB.out.size))
      try replace HR := Lib.hid (fun k => (HR.out k).call hb)
      try replace HZ := Lib.hid (HZ.out.call hb)
      try replace HA := Lib.hid (HA.out.below hb HA.out.lt)
      try replace HO := Lib.hid (HO.out.below hb HO.out.lt)
      clear hb
      replace hrow := hrow.less hs
      obtain ⟨zA, zc, rfl⟩ := hrow.val
      rw [List.length_replicate] at hrow ⊢
      have HZ := Lib.hid hrow
      clear hrow hs
      refine hK.out _ _ (fun h => absurd h (by decide)) ?_
      clear hK K
      try simp only [Act.put, List.setIfInBounds_toArray, List.set_cons_zero, List.set_cons_succ]
      refine wpAnyC_takeQ (i := 9) (oi := _) (v := .agg #[.slice vc.ba bn vc.bc, .slice zA bn zc, .slice (some ⟨a6, 0, none⟩) bn bn, .slice (some ⟨a8, 0, none⟩) bn bn, I 0]) rfl (by kernel_rfl) (by kernel_rfl) (by kernel_rfl) (by kernel_rfl) (fun _ _ _ h => h) (Or.inl ⟨by rfl, ?_⟩) (by kernel_rfl) ?_
      · intro w _
        go_simp
      try simp only [Act.put, List.setIfInBounds_toArray]
      refine wpAnyC_one (i := 10) (by kernel_rfl) rfl (fun K hK => ?_)
      go_simp
      have HW := Lib.hid (show WS (W.alloc (.cells #[.slice vc.ba bn vc.bc, .slice zA bn zc, .slice (some ⟨a6, 0, none⟩) bn bn, .slice (some ⟨a8, 0, none⟩) bn bn, I 0] 64)) w.heap.size ⟨W.heap.size, vc.ba, vc.bc, zA, zc, a6, a8⟩ n.branches (List.replicate n.branches.length rt0) 0 from wat_new HBN.out HB.out HR.out HZ.out HA.out HAG.out HO.out HOG.out)
      have HBF := Lib.hid (HB.out.trans ((below_new W (.cells #[.slice vc.ba bn vc.bc, .slice zA bn zc, .slice (some ⟨a6, 0, none⟩) bn bn, .slice (some ⟨a8, 0, none⟩) bn bn, I 0] 64)).mono HB.out.size))
      refine hK.out _ _ (fun h => absurd h (by decide)) ?_
      clear hK K
      try simp only [Act.put, List.setIfInBounds_toArray, List.set_cons_zero, List.set_cons_succ]
      refine wpAnyC_one (i := 11) (by kernel_rfl) rfl (fun K hK => ?_)
      go_simp
      refine hK.out _ _ (fun h => absurd h (by decide)) ?_
      clear hK K
      try simp only [Act.put, List.setIfInBounds_toArray, List.set_cons_zero, List.set_cons_succ]
      refine wpAnyC_one (i := 12) (by kernel_rfl) rfl (fun K hK => ?_)
      go_simp
      refine hK.out _ _ (fun h => absurd h (by decide)) ?_
      clear hK K
      try simp only [Act.put, List.setIfInBounds_toArray, List.set_cons_zero, List.set_cons_succ]
      refine wpAnyC_done (by kernel_rfl) ?_ _
      go_wp2
      go_ret2
      exact rnew_end HE.out HW.out HBF.out
    refine AllC.cons rfl (fun K hK => ?_) AllC.nil
    go_simp
    have hb := below_new W (.cells (Array.replicate bn (.bool false)) 4)
    have hx := Blk.new W 4 (Array.replicate bn (.bool false))
    have hs := HB.out.size
    obtain ⟨a8, ha8⟩ : ∃ a8, W.heap.size = a8 := ⟨_, rfl⟩
    rw [ha8] at hx hs ⊢
    clear ha8
    have HOG := Lib.hid hs
    replace HG := Lib.hid (HG.out.below hb HG.out.lt)
    replace HN := Lib.hid (HN.out.below hb)
    replace HB := Lib.hid (HB.out.trans (hb.mono HB.out.size))
    try replace HR := Lib.hid (fun k => (HR.out k).call hb)
    try replace HZ := Lib.hid (HZ.out.call hb)
    try replace HA := Lib.hid (HA.out.below hb HA.out.lt)
    try replace HO := Lib.hid (HO.out.below hb HO.out.lt)
    clear hb
    have HO := Lib.hid hx
    clear hx hs
    generalize W.alloc (.cells (Array.replicate bn (.bool false)) 4) = W at *
    refine hK.out _ _ (fun _ => ⟨HG.out.cell 0, HG.out.cell 1, HG.out.cell 2, HG.out.cell 3, HG.out.cell 4, HG.out.cell 5⟩) ?_
    clear hK K
    try simp only [Act.put, List.setIfInBounds_toArray, List.set_cons_zero, List.set_cons_succ]
    refine wpAnyC_all (l := [1, 6]) (by kernel_rfl) rfl ?_
    refine AllC.cons rfl (fun K hK => ?_) ?_
    · go_simp
      go_at_call 22
      refine (HCP.out _ HN.out.net).mono ?_
      rintro e W ⟨vc, rfl, _, hrows, hb⟩
      have hs := HB.out.size
      replace HG := Lib.hid (HG.out.below hb HG.out.lt)
      replace HN := Lib.hid (HN.out.below hb)
      replace HB := Lib.hid (HB.out.trans (hb.mono HB.out.size))
      try replace HR := Lib.hid (fun k => (HR.out k).call hb)
      try replace HZ := Lib.hid (HZ.out.call hb)
      try replace HA := Lib.hid (HA.out.below hb HA.out.lt)
      try replace HO := Lib.hid (HO.out.below hb HO.out.lt)
      clear hb
      have HR := Lib.hid (fun k => (hrows.r2 k).less hs)
      unfold NetV.val NetV.parts
      clear hrows hs
      rw [HBN.out] at HR
      refine hK.out _ _ (fun h => absurd h (by decide)) ?_
      clear hK K
      try simp only [Act.put, List.setIfInBounds_toArray, List.set_cons_zero, List.set_cons_succ]
      refine wpAnyC_takeQ (i := 2) (oi := _) (v := .slice vc.ba bn vc.bc) rfl (by kernel_rfl) (by kernel_rfl) (by kernel_rfl) (by kernel_rfl) (fun _ _ _ h => h) (Or.inl ⟨by rfl, ?_⟩) (by kernel_rfl) ?_
      · intro w _
        go_simp
        rw [HBN.out, fld2]
        rfl
      try simp only [Act.put, List.setIfInBounds_toArray]
      refine wpAnyC_all (l := [4, 6]) (by kernel_rfl) rfl ?_
      refine AllC.cons rfl (fun K hK => ?_) ?_
      · go_simp
        go_at_call 23
        refine (HZC.out _).mono ?_
        rintro e W ⟨vz, rfl, hrow, hb⟩
        have hs := HB.out.size
        replace HG := Lib.hid (HG.out.below hb HG.out.lt)
        replace HN := Lib.hid (HN.out.below hb)
        replace HB := Lib.hid (HB.out.trans (hb.mono HB.out.size))
        try replace HR := Lib.hid (fun k => (HR.out k).call hb)
        try replace HZ := Lib.hid (HZ.out.call hb)
        try replace HA := Lib.hid (HA.out.below hb HA.out.lt)
        try replace HO := Lib.hid (HO.out.below hb HO.out.lt)
        clear hb
        replace hrow := hrow.less hs
        obtain ⟨zA, zc, rfl⟩ := hrow.val
        rw [List.length_replicate] at hrow ⊢
        have HZ := Lib.hid hrow
        clear hrow hs
        refine hK.out _ _ (fun h => absurd h (by decide)) ?_
        clear hK K
        try simp only [Act.put, List.setIfInBounds_toArray, List.set_cons_zero, List.set_cons_succ]
        refine wpAnyC_all (l := [6]) (by kernel_rfl) rfl ?_
        refine AllC.cons rfl (fun K hK => ?_) AllC.nil
        go_simp
        have hb := below_new W (.cells (Array.replicate bn (I 0)) 3)
        have hx := Blk.new W 3 (Array.replicate bn (I 0))
        have hs := HB.out.size
        obtain ⟨a6, ha6⟩ : ∃ a6, W.heap.size = a6 := ⟨_, rfl⟩
        rw [ha6] at hx hs ⊢
        clear ha6
        have HAG := Lib.hid hs
        replace HG := Lib.hid (HG.out.below hb HG.out.lt)
        replace HN := Lib.hid (HN.out.below hb)
        replace HB := Lib.hid (HB.out.trans (hb.mono HB.out.size))
        try replace HR := Lib.hid (fun k => (HR.out k).call hb)
        try replace HZ := Lib.hid (HZ.out.call hb)
        try replace HA := Lib.hid (HA.out.below hb HA.out.lt)
        try replace HO := Lib.hid (HO.out.below hb HO.out.lt)
        clear hb
        have HA := Lib.hid hx
        clear hx hs
        generalize W.alloc (.cells (Array.replicate bn (I 0)) 3) = W at *
        refine hK.out _ _ (fun _ => ⟨HG.out.cell 0, HG.out.cell 1, HG.out.cell 2, HG.out.cell 3, HG.out.cell 4, HG.out.cell 5⟩) ?_
        clear hK K
        try simp only [Act.put, List.setIfInBounds_toArray, List.set_cons_zero, List.set_cons_succ]
        refine wpAnyC_takeQ (i := 9) (oi := _) (v := .agg #[.slice vc.ba bn vc.bc, .slice zA bn zc, .slice (some ⟨a6, 0, none⟩) bn bn, .slice (some ⟨a8, 0, none⟩) bn bn, I 0]) rfl (by kernel_rfl) (by kernel_rfl) (by kernel_rfl) (by kernel_rfl) (fun _ _ _ h => h) (Or.inl ⟨by rfl, ?_⟩) (by kernel_rfl) ?_
        · intro w _
          go_simp
        try simp only [Act.put, List.setIfInBounds_toArray]
        refine wpAnyC_one (i := 10) (by kernel_rfl) rfl (fun K hK => ?_)
        go_simp
        have HW := Lib.hid (show WS (W.alloc (.cells #[.slice vc.ba bn vc.bc, .slice zA bn zc, .slice (some ⟨a6, 0, none⟩) bn bn, .slice (some ⟨a8, 0, none⟩) bn bn, I 0] 64)) w.heap.size ⟨W.heap.size, vc.ba, vc.bc, zA, zc, a6, a8⟩ n.branches (List.replicate n.branches.length rt0) 0 from wat_new HBN.out HB.out HR.out HZ.out HA.out HAG.out HO.out HOG.out)
        have HBF := Lib.hid (HB.out.trans ((below_new W (.cells #[.slice vc.ba bn vc.bc, .slice zA bn zc, .slice (some ⟨a6, 0, none⟩) bn bn, .slice (some ⟨a8, 0, none⟩) bn bn, I 0] 64)).mono HB.out.size))
        refine hK.out _ _ (fun h => absurd h (by decide)) ?_
        clear hK K
        try simp only [Act.put, List.setIfInBounds_toArray, List.set_cons_zero, List.set_cons_succ]
        refine wpAnyC_one (i := 11) (by kernel_rfl) rfl (fun K hK => ?_)
        go_simp
        refine hK.out _ _ (fun h => absurd h (by decide)) ?_
        clear hK K
        try simp only [Act.put, List.setIfInBounds_toArray, List.set_cons_zero, List.set_cons_succ]
        refine wpAnyC_one (i := 12) (by kernel_rfl) rfl (fun K hK => ?_)
        go_simp
        refine hK.out _ _ (fun h => absurd h (by decide)) ?_
        clear hK K
        try simp only [Act.put, List.setIfInBounds_toArray, List.set_cons_zero, List.set_cons_succ]
        refine wpAnyC_done (by kernel_rfl) ?_ _
        go_wp2
        go_ret2
        exact rnew_end HE.out HW.out HBF.out
      refine AllC.cons rfl (fun K hK => ?_) AllC.nil
      go_simp
      have hb := below_new W (.cells (Array.replicate bn (I 0)) 3)
      have hx := Blk.new W 3 (Array.replicate bn (I 0))
      have hs := HB.out.size
      obtain ⟨a6, ha6⟩ : ∃ a6, W.heap.size = a6 := ⟨_, rfl⟩
      rw [ha6] at hx hs ⊢
      clear ha6
      have HAG := Lib.hid hs
      replace HG := Lib.hid (HG.out.below hb HG.out.lt)
      replace HN := Lib.hid (HN.out.below hb)
      replace HB := Lib.hid (HB.out.trans (hb.mono HB.out.size))
      try replace HR := Lib.hid (fun k => (HR.out k).call hb)
      try replace HZ := Lib.hid (HZ.out.call hb)
      try replace HA := Lib.hid (HA.out.below hb HA.out.lt)
      try replace HO := Lib.hid (HO.out.below hb HO.out.lt)
      clear hb
      have HA := Lib.hid hx
      clear hx hs
      generalize W.alloc (.cells (Array.replicate bn (I 0)) 3) = W at *
      refine hK.out _ _ (fun _ => ⟨HG.out.cell 0, HG.out.cell 1, HG.out.cell 2, HG.out.cell 3, HG.out.cell 4, HG.out.cell 5⟩) ?_
      clear hK K
      try simp only [Act.put, List.setIfInBounds_toArray, List.set_cons_zero, List.set_cons_succ]
      refine wpAnyC_all (l := [4]) (by kernel_rfl) rfl ?_
      refine AllC.cons rfl (fun K hK => ?_) AllC.nil
      go_simp
      go_at_call 23
      refine (HZC.out _).mono ?_
      rintro e W ⟨vz, rfl, hrow, hb⟩
      have hs := HB.out.size
      replace HG := Lib.hid (HG.out.below hb HG.out.lt)
      replace HN := Lib.hid (HN.out.below hb)
      replace HB := Lib.hid (HB.out.trans (hb.mono HB.out.size))
      try replace HR := Lib.hid (fun k => (HR.out k).call hb)
      try replace HZ := Lib.hid (HZ.out.call hb)
      try replace HA := Lib.hid (HA.out.below hb HA.out.lt)
      try replace HO := Lib.hid (HO.out.below hb HO.out.lt)
      clear hb
      replace hrow := hrow.less hs
      obtain ⟨zA, zc, rfl⟩ := hrow.val
      rw [List.length_replicate] at hrow ⊢
      have HZ := Lib.hid hrow
      clear hrow hs
      refine hK.out _ _ (fun h => absurd h (by decide)) ?_
      clear hK K
      try simp only [Act.put, List.setIfInBounds_toArray, List.set_cons_zero, List.set_cons_succ]
      refine wpAnyC_takeQ (i := 9) (oi := _) (v := .agg #[.slice vc.ba bn vc.bc, .slice zA bn zc, .slice (some ⟨a6, 0, none⟩) bn bn, .slice (some ⟨a8, 0, none⟩) bn bn, I 0]) rfl (by kernel_rfl) (by kernel_rfl) (by kernel_rfl) (by kernel_rfl) (fun _ _ _ h => h) (Or.inl ⟨by rfl, ?_⟩) (by kernel_rfl) ?_
      · intro w _
        go_simp
      try simp only [Act.put, List.setIfInBounds_toArray]
      refine wpAnyC_one (i := 10) (by kernel_rfl) rfl (fun K hK => ?_)
      go_simp
      have HW := Lib.hid (show WS (W.alloc (.cells #[.slice vc.ba bn vc.bc, .slice zA bn zc, .slice (some ⟨a6, 0, none⟩) bn bn, .slice (some ⟨a8, 0, none⟩) bn bn, I 0] 64)) w.heap.size ⟨W.heap.size, vc.ba, vc.bc, zA, zc, a6, a8⟩ n.branches (List.replicate n.branches.length rt0) 0 from wat_new HBN.out HB.out HR.out HZ.out HA.out HAG.out HO.out HOG.out)
      have HBF := Lib.hid (HB.out.trans ((below_new W (.cells #[.slice vc.ba bn vc.bc, .slice zA bn zc, .slice (some ⟨a6, 0, none⟩) bn bn, .slice (some ⟨a8, 0, none⟩) bn bn, I 0] 64)).mono HB.out.size))
      refine hK.out _ _ (fun h => absurd h (by decide)) ?_
      clear hK K
      try simp only [Act.put, List.setIfInBounds_toArray, List.set_cons_zero, List.set_cons_succ]
      refine wpAnyC_one (i := 11) (by kernel_rfl) rfl (fun K hK => ?_)
      go_simp
      refine hK.out _ _ (fun h => absurd h (by decide)) ?_
      clear hK K
      try simp only [Act.put, List.setIfInBounds_toArray, List.set_cons_zero, List.set_cons_succ]
      refine wpAnyC_one (i := 12) (by kernel_rfl) rfl (fun K hK => ?_)
      go_simp
      refine hK.out _ _ (fun h => absurd h (by decide)) ?_
      clear hK K
      try simp only [Act.put, List.setIfInBounds_toArray, List.set_cons_zero, List.set_cons_succ]
      refine wpAnyC_done (by kernel_rfl) ?_ _
      go_wp2
      go_ret2
      exact rnew_end HE.out HW.out HBF.out
    refine AllC.cons rfl (fun K hK => ?_) AllC.nil
    go_simp
    have hb := below_new W (.cells (Array.replicate bn (I 0)) 3)
    have hx := Blk.new W 3 (Array.replicate bn (I 0))
    have hs := HB.out.size
    obtain ⟨a6, ha6⟩ : ∃ a6, W.heap.size = a6 := ⟨_, rfl⟩
    rw [ha6] at hx hs ⊢
    clear ha6
    have HAG := Lib.hid hs
    replace HG := Lib.hid (HG.out.below hb HG.out.lt)
    replace HN := Lib.hid (HN.out.below hb)
    replace HB := Lib.hid (HB.out.trans (hb.mono HB.out.size))
    try replace HR := Lib.hid (fun k => (HR.out k).call hb)
    try replace HZ := Lib.hid (HZ.out.call hb)
    try replace HA := Lib.hid (HA.out.below hb HA.out.lt)
    try replace HO := Lib.hid (HO.out.below hb HO.out.lt)
    clear hb
    have HA := Lib.hid hx
    clear hx hs
    generalize W.alloc (.cells (Array.replicate bn (I 0)) 3) = W at *
    refine hK.out _ _ (fun _ => ⟨HG.out.cell 0, HG.out.cell 1, HG.out.cell 2, HG.out.cell 3, HG.out.cell 4, HG.out.cell 5⟩) ?_
    clear hK K
    try simp only [Act.put, List.setIfInBounds_toArray, List.set_cons_zero, List.set_cons_succ]
    refine wpAnyC_all (l := [1]) (by kernel_rfl) rfl ?_
    refine AllC.cons rfl (fun K hK => ?_) AllC.nil
    go_simp
    go_at_call 22
    refine (HCP.out _ HN.out.net).mono ?_
    rintro e W ⟨vc, rfl, _, hrows, hb⟩
    have hs := HB.out.size
    replace HG := Lib.hid (HG.out.below hb HG.out.lt)
    replace HN := Lib.hid (HN.out.below hb)
    replace HB := Lib.hid (HB.out.trans (hb.mono HB.out.size))
    try replace HR := Lib.hid (fun k => (HR.out k).call hb)
    try replace HZ := Lib.hid (HZ.out.call hb)
    try replace HA := Lib.hid (HA.out.below hb HA.out.lt)
    try replace HO := Lib.hid (HO.out.below hb HO.out.lt)
    clear hb
    have HR := Lib.hid (fun k => (hrows.r2 k).less hs)
    unfold NetV.val NetV.parts
    clear hrows hs
    rw [HBN.out] at HR
    refine hK.out _ _ (fun h => absurd h (by decide)) ?_
    clear hK K
    try simp only [Act.put, List.setIfInBounds_toArray, List.set_cons_zero, List.set_cons_succ]
    refine wpAnyC_takeQ (i := 2) (oi := _) (v := .slice vc.ba bn vc.bc) rfl (by kernel_rfl) (by kernel_rfl) (by kernel_rfl) (by kernel_rfl) (fun _ _ _ h => h) (Or.inl ⟨by rfl, ?_⟩) (by kernel_rfl) ?_
    · intro w _
      go_simp
      rw [HBN.out, fld2]
      rfl
    try simp only [Act.put, List.setIfInBounds_toArray]
    refine wpAnyC_all (l := [4]) (by kernel_rfl) rfl ?_
    refine AllC.cons rfl (fun K hK => ?_) AllC.nil
    go_simp
    go_at_call 23
    refine (HZC.out _).mono ?_
    rintro e W ⟨vz, rfl, hrow, hb⟩
    have hs := HB.out.size
    replace HG := Lib.hid (HG.out.below hb HG.out.lt)
    replace HN := Lib.hid (HN.out.below hb)
    replace HB := Lib.hid (HB.out.trans (hb.mono HB.out.size))
    try replace HR := Lib.hid (fun k => (HR.out k).call hb)
    try replace HZ := Lib.hid (HZ.out.call hb)
    try replace HA := Lib.hid (HA.out.below hb HA.out.lt)
    try replace HO := Lib.hid (HO.out.below hb HO.out.lt)
    clear hb
    replace hrow := hrow.less hs
    obtain ⟨zA, zc, rfl⟩ := hrow.val
    rw [List.length_replicate] at hrow ⊢
    have HZ := Lib.hid hrow
    clear hrow hs
    refine hK.out _ _ (fun h => absurd h (by decide)) ?_
    clear hK K
    try simp only [Act.put, List.setIfInBounds_toArray, List.set_cons_zero, List.set_cons_succ]
    refine wpAnyC_takeQ (i := 9) (oi := _) (v := .agg #[.slice vc.ba bn vc.bc, .slice zA bn zc, .slice (some ⟨a6, 0, none⟩) bn bn, .slice (some ⟨a8, 0, none⟩) bn bn, I 0]) rfl (by kernel_rfl) (by kernel_rfl) (by kernel_rfl) (by kernel_rfl) (fun _ _ _ h => h) (Or.inl ⟨by rfl, ?_⟩) (by kernel_rfl) ?_
    · intro w _
      go_simp
    try simp only [Act.put, List.setIfInBounds_toArray]
    refine wpAnyC_one (i := 10) (by kernel_rfl) rfl (fun K hK => ?_)
    go_simp
    have HW := Lib.hid (show WS (W.alloc (.cells #[.slice vc.ba bn vc.bc, .slice zA bn zc, .slice (some ⟨a6, 0, none⟩) bn bn, .slice (some ⟨a8, 0, none⟩) bn bn, I 0] 64)) w.heap.size ⟨W.heap.size, vc.ba, vc.bc, zA, zc, a6, a8⟩ n.branches (List.replicate n.branches.length rt0) 0 from wat_new HBN.out HB.out HR.out HZ.out HA.out HAG.out HO.out HOG.out)
    have HBF := Lib.hid (HB.out.trans ((below_new W (.cells #[.slice vc.ba bn vc.bc, .slice zA bn zc, .slice (some ⟨a6, 0, none⟩) bn bn, .slice (some ⟨a8, 0, none⟩) bn bn, I 0] 64)).mono HB.out.size))
    refine hK.out _ _ (fun h => absurd h (by decide)) ?_
    clear hK K
    try simp only [Act.put, List.setIfInBounds_toArray, List.set_cons_zero, List.set_cons_succ]
    refine wpAnyC_one (i := 11) (by kernel_rfl) rfl (fun K hK => ?_)
    go_simp
    refine hK.out _ _ (fun h => absurd h (by decide)) ?_
    clear hK K
    try simp only [Act.put, List.setIfInBounds_toArray, List.set_cons_zero, List.set_cons_succ]
    refine wpAnyC_one (i := 12) (by kernel_rfl) rfl (fun K hK => ?_)
    go_simp
    refine hK.out _ _ (fun h => absurd h (by decide)) ?_
    clear hK K
    try simp only [Act.put, List.setIfInBounds_toArray, List.set_cons_zero, List.set_cons_succ]
    refine wpAnyC_done (by kernel_rfl) ?_ _
    go_wp2
    go_ret2
    exact rnew_end HE.out HW.out HBF.out
  · have HE := Lib.hid e
    have tc : (checkN n != 0) = true := bne_iff_ne.2 e
    generalize hck : checkN n = ck at *
    have HCK := Lib.hid hck
    clear e hck
    unfold NetV.val NetV.parts at *
    go_enter Tryz.func7, Tryz.ntmps7
    go_wp2_with fail
    refine HC.out.mono ?_
    rintro e w1 ⟨rfl, hb⟩
    clear HC
    replace HB := Lib.hid (HB.out.trans (hb.mono HB.out.size))
    clear hb
    go_wp2
    go_ret2
    exact rnew_err HCK.out HE.out HB.out
end Go.Proofs.YtfigffaghaaaoaaGreatDoor
