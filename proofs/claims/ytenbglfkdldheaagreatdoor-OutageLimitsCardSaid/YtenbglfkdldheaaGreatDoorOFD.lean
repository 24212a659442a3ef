/- flow.Of. -/
import Derived.Test.YtenbglfkdldheaaGreatDoorOFC
set_option maxRecDepth 100000
set_option maxHeartbeats 40000000
namespace Go.Proofs.YtenbglfkdldheaaGreatDoor
open Go.RowKit Go.Maps
theorem mG {b : BranchD} (h : aT b = true) : 1 ≤ b.x ∧ b.x ≤ 10000 ∧ 500 ≤ b.tap ∧ b.tap ≤ 1500 ∧ -1000 ≤ b.shift ∧ b.shift ≤ 1000 := by
 simp only [aT, cV, Bool.not_eq_true', Bool.or_eq_false_iff, decide_eq_false_iff_not] at h
 omega
theorem kG {b : BranchD} (h : aT b = true) : 500 ≤ b.x * b.tap ∧ b.x * b.tap ≤ 15000000 := by
 obtain ⟨h1, h2, h3, h4, _, _⟩ := mG h
 constructor
 ·have := Int.mul_le_mul h1 h3 (by omega) (by omega)
  omega
 ·have := Int.mul_le_mul h2 h4 (by omega) (by omega)
  omega
theorem uZ {n d : Int} (h1 : n.natAbs ≤ 4000000000) (h2 : d.natAbs ≤ 4000000000) : FitR 1 (Rat.divInt n d) := by
 obtain ⟨k1, k2⟩ := lF n d
 have k3 : max 1 d.natAbs ≤ 4000000000 := Nat.max_le.2 ⟨by decide, h2⟩
 exact ⟨iS _ (by decide) _ (by omega) (by omega), iS _ (by decide) _ (by omega) (by omega)⟩
theorem vA {b : BranchD} (h : aT b = true) : FitR 1 (bQ b) := by
 have := kG h
 exact uZ (by decide) (by omega)
theorem aFz {b : BranchD} (h : aT b = true) : FitR 1 (Rat.divInt (-b.shift) 1000) := by
 have := mG h
 exact uZ (by omega) (by decide)
theorem aBe {n : NetD} (h : VNet n) (k : Nat) : FitR 2 ((bLQ n).getD k 0) := by
 rw [gD]
 cases e : (bLQ n)[k]? with
 | none => exact fC.mono (by decide)
 | some q =>
  obtain ⟨b, hb, rfl⟩ := List.mem_map.1 (List.mem_of_getElem? e)
  exact (vA (h.br b hb).2.2.2).mono (by decide)
theorem iP {n : NetD} (h : VNet n) {x : ByteArray} (hx : x ∈ n.nodes) : 0 ≤ bR n x ∧ bR n x < (aC n).length ∧ bR n x < 24 := by
 have hi := fU hx
 obtain ⟨j, hj⟩ : ∃ j : Nat, Lib.idxOfS n.nodes x = j := Int.eq_ofNat_of_zero_le hi.1
 have hb := vK h (i := j) (by omega)
 have hl := oI h
 unfold bR
 rw [hj]
 omega
theorem zD {n : NetD} (h : VNet n) : ∀ x ∈ cF n, 0 ≤ x ∧ x ≤ 1000 := fun x hx => by
 obtain ⟨b, hb, rfl⟩ := List.mem_map.1 hx
 have := iP h (h.br b hb).1
 omega
theorem zE {n : NetD} (h : VNet n) : ∀ x ∈ toL n, 0 ≤ x ∧ x ≤ 1000 := fun x hx => by
 obtain ⟨b, hb, rfl⟩ := List.mem_map.1 hx
 have := iP h (h.br b hb).2.1
 omega
theorem iQ (isl : List Int) : ∀ k, (eY isl k).length ≤ k
 | 0 => Nat.le_refl _
 | k + 1 => by
  have := iQ isl k
  rw [eY, List.length_append]
  split <;> simp <;> omega
theorem nA {α β : Type} {l : List α} (f : α → β) {k : Nat} {b : α} (h : l[k]? = some b) : (l.map f).take (k + 1) = (l.map f).take k ++ [f b] := by
 rw [List.take_add_one, List.getElem?_map, h]
 rfl
theorem MS.rowNe {w : World} {base g : Nat} {rs : Nat → Value} {is : Nat → List Int} {qs : Nat → Value} {ts : Nat → List Rat} {iv : Value} (h : MS w base g rs is qs ts iv) {b : Nat} {t : TypeId} {cs : Array Value} (hB : Blk w b t cs) (ht : iO ≠ t) {j : Nat} (hj : j < 5) : (rs j).ownBlock ≠ some b :=
 fun e => own_ne (h.ri j hj) hB ht b e rfl
theorem MS.ratNe {w : World} {base g : Nat} {rs : Nat → Value} {is : Nat → List Int} {qs : Nat → Value} {ts : Nat → List Rat} {iv : Value} (h : MS w base g rs is qs ts iv) {b : Nat} {t : TypeId} {cs : Array Value} (hB : Blk w b t cs) (ht : aJ ≠ t) {j : Nat} (hj : j < 2) : (qs j).ownBlock ≠ some b := fun e => by
 obtain ⟨⟨ys, hrow, _⟩, _⟩ := h.rq j hj
 exact own_ne hrow hB ht b e rfl
theorem MS.start2 {w : World} {base : Nat} {bA iA : Option Addr} {bc ic : Nat} {bus isl : List Int} (hb : base ≤ w.heap.size) (h1 : Row w base iO 1 (.slice bA bus.length bc) bus.length (bus.map I)) (h2 : Row w base iO 1 (.slice iA isl.length ic) isl.length (isl.map I)) :
  ∃ rs qs, rs 1 = .slice iA isl.length ic ∧ MS (w.alloc (.cells #[.slice bA bus.length bc, .slice iA isl.length ic, .slice none 0 0, .slice none 0 0, .slice none 0 0, .slice none 0 0, .slice none 0 0, .slice none 0 0] mZ)) base w.heap.size rs (isO bus isl [] [] []) qs (tsO [] []) (.slice none 0 0) := ⟨_, _, rfl, MS.start hb h1 h2⟩
theorem aNz {w w' : World} {b : Nat} {ss : List Int} (h : SeenI w b ss) (hg : w.grownBy w' (some b)) : Kw w w' := by
 refine ⟨hg.size, fun p n e => ?_⟩
 have hl := World.block_lt_of_cell? w p e
 have hne : p.block ≠ b := fun k => by
  obtain ⟨D, ⟨es, clock, e1, _⟩, _⟩ := h
  rw [← k] at e1
  simp [World.cell?, e1] at e
 exact (World.cell?_of_block (a := p) (hg.block p.block hl (fun k => hne (Option.some.inj k)))).trans e
theorem MS.map {w w' : World} {base g : Nat} {rs : Nat → Value} {is : Nat → List Int} {qs : Nat → Value} {ts : Nat → List Rat} {iv : Value} (h : MS w base g rs is qs ts iv) {b : Nat} {ss : List Int} (hm : SeenI w b ss) (hg : w.grownBy w' (some b)) : MS w' base g rs is qs ts iv := by
 have keep : ∀ k, k < w.heap.size → k ≠ b → w'.heap[k]? = w.heap[k]? := fun k hk hn => hg.block k hk fun e => hn (Option.some.inj e)
 have hri : ∀ j, j < 5 → ∀ k, (rs j).ownBlock = some k → k < w.heap.size ∧ k ≠ b := fun j hj k e => by
  obtain ⟨_, h2, cur, h3⟩ := own_lt (h.ri j hj) e
  exact ⟨h2, hm.ne h3⟩
 have hrq : ∀ j, j < 2 → ∀ k, (qs j).ownBlock = some k → k < w.heap.size ∧ k ≠ b := fun j hj k e => by
  obtain ⟨cs, h3⟩ := (h.rq j hj).blk e
  exact ⟨h3.lt, hm.ne h3⟩
 refine ⟨h.ge, (keep g h.blk.lt (hm.ne h.blk)).trans h.blk, fun j hj => (h.ri j hj).keepO fun k hk => keep k (hri j hj k hk).1 (hri j hj k hk).2, fun i hi2 hi k o y e => ?_, fun j hj => (h.rq j hj).keep (aNz hm hg) fun k hk => keep k (hrq j hj k hk).1 (hrq j hj k hk).2, h.si, h.sq⟩
 rw [World.cell?_of_block (a := ⟨k, o, none⟩) (keep k (hri i hi k e).1 (hri i hi k e).2)]
 exact h.nw i hi2 hi k o y e
theorem rA {isl : List Int} {k : Nat} {x : Int} (hx : isl.getD k 0 = x) {c : Bool} (hc : (isl.take k).contains x = c) : eY isl (k + 1) = eY isl k ++ (if c = true then [(k : Int)] else []) := by rw [eY, hx, hc]
theorem dO {v : Value} {n : Nat} (h : ∃ A c, v = .slice A n c) : ∃ A l c, v = .slice A l c := by
 obtain ⟨A, c, e⟩ := h
 exact ⟨A, n, c, e⟩
theorem kH {w : World} {a b : Nat} {t u : TypeId} {x y : Array Value} (h : Blk w a t x) (k : Blk w b u y) (hn : t ≠ u) : a ≠ b := by
 rintro rfl
 unfold Blk at h k
 rw [h] at k
 injection k with k
 injection k with _ k
 exact hn k
theorem NetIn.br0 {w : World} {n : NetD} {v : NetV} (h : NetIn w n v) {i : Nat} {b : BranchD} (hi : n.branches[i]? = some b) : ∃ bb off, v.ba = some ⟨bb, off, none⟩ ∧ bb < w.heap.size ∧ w.cell? ⟨bb, off + i * 9, none⟩ = some (.string b.name) ∧ w.cell? ⟨bb, off + i * 9 + 1, none⟩ = some (.string b.src) ∧ w.cell? ⟨bb, off + i * 9 + 2, none⟩ = some (.string b.dst) ∧
  w.cell? ⟨bb, off + i * 9 + 3, none⟩ = some (I b.x) ∧ w.cell? ⟨bb, off + i * 9 + 4, none⟩ = some (I b.tap) ∧ w.cell? ⟨bb, off + i * 9 + 5, none⟩ = some (I b.shift) ∧ w.cell? ⟨bb, off + i * 9 + 6, none⟩ = some (I b.limit) ∧ w.cell? ⟨bb, off + i * 9 + 7, none⟩ = some (I b.short) ∧ w.cell? ⟨bb, off + i * 9 + 8, none⟩ = some (I b.hold) := by
 obtain ⟨hl, rfl⟩ := List.getElem?_eq_some_iff.1 hi
 obtain ⟨bb, off, e, hlt, hc⟩ := dN (f := BranchD.cells) (fun _ => rfl) (by decide) h.branches hl
 have g : ∀ j u, n.branches[i].cells[j]? = some u → w.cell? ⟨bb, off + i * 9 + j, none⟩ = some u := fun j u hu => by rw [Nat.add_assoc]; exact hc j u hu
 exact ⟨bb, off, e, hlt, g 0 _ rfl, g 1 _ rfl, g 2 _ rfl, g 3 _ rfl, g 4 _ rfl, g 5 _ rfl, g 6 _ rfl, g 7 _ rfl, g 8 _ rfl⟩
def MF (w : World) (base g : Nat) (n : NetD) : Prop :=
 ∃ rs qs v vs, MS w base g rs (isO (aG n) (aC n) (cF n) (toL n) (bE n)) qs (tsO (bLQ n) (cLQ n)) v ∧ LM w base v vs (sH (fL (bE n) (cF n) (toL n) (bLQ n) (bE n).length n.branches.length) (bE n).length).1
def aNk (w : World) (n : NetD) (e : Ending) (w' : World) : Prop := ∃ base g, e = .returned (.pointer (some ⟨g, 0, none⟩)) ∧ w.heap.size ≤ base ∧ MF w' base g n ∧ Below w.heap.size w w'
theorem wO (n : NetD) (v : NetV) (w : World) (hN : NetIn w n v) (hV : VNet n) : Calls Tryz.prog 59 #[v.val n] w (aNk w n) := by
 have HV := aH hV
 have hbl : n.branches.length ≤ 24 := hV.hb
 have hnl : n.nodes.length ≤ 24 := hV.hn
 have hil := oI hV
 obtain ⟨na, nc, sa, sc, bra, brc, ga, gc, la, lc, ta, tc⟩ := v
 have HG := aH (Blk.new w 29 (NetV.parts ⟨na, nc, sa, sc, bra, brc, ga, gc, la, lc, ta, tc⟩ n))
 have hz := aD w (Obj.cells (NetV.parts ⟨na, nc, sa, sc, bra, brc, ga, gc, la, lc, ta, tc⟩ n) 29)
 have HN := aH (hN.below hz)
 have HBW := aH hz
 clear hV hN hz
 unfold NetV.val NetV.parts at *
 simp only at HG HN HBW ⊢
 go_enter Tryz.func59, Tryz.ntmps59
 go_upto_region 1 with (fail)
 generalize (w.alloc (Obj.cells #[.slice na n.nodes.length nc, .slice sa n.switches.length sc, .slice bra n.branches.length brc, .slice ga n.gens.length gc, .slice la n.loads.length lc, .slice ta n.stores.length tc] 29)) = w0 at *
 generalize hgn : w.heap.size = gn at *
 have HT := aH (aBp n _ w0 HN.out HV.out)
 unfold NetV.val NetV.parts at HT
 simp only at HT
 have x0 := HG.out.cell 0
 have x1 := HG.out.cell 1
 have x2 := HG.out.cell 2
 have x3 := HG.out.cell 3
 have x4 := HG.out.cell 4
 have x5 := HG.out.cell 5
 go_wp2_with fail
 refine HT.out.mono ?_
 rintro e w2 ⟨bv, iv, rfl, hr1, hr2, hb⟩
 clear HT x0 x1 x2 x3 x4 x5
 obtain ⟨bA, bc, rfl⟩ := hr1.val
 obtain ⟨iA, ic, rfl⟩ := hr2.val
 have HB := aH hb
 obtain ⟨rs0, qs0, his, HS0⟩ := MS.start2 hb.size hr1 hr2
 clear hr1 hr2 hb
 go_upto_region 2 with (fail)
 replace HB := aH (HB.out.trans ((aD w2 (Obj.cells #[.slice bA (aG n).length bc, .slice iA (aC n).length ic, .slice none 0 0, .slice none 0 0, .slice none 0 0, .slice none 0 0, .slice none 0 0, .slice none 0 0] mZ)).mono HB.out.size))
 have hgb : w0.heap.size ≤ w2.heap.size := HS0.ge
 have HIS := aH his
 clear his
 have HS := aH (show MS (w2.alloc (Obj.cells #[.slice bA (aG n).length bc, .slice iA (aC n).length ic, .slice none 0 0, .slice none 0 0, .slice none 0 0, .slice none 0 0, .slice none 0 0, .slice none 0 0] mZ)) w0.heap.size w2.heap.size rs0 (isO (aG n) (aC n) ((cF n).take 0) ((toL n).take 0) []) qs0 (tsO ((bLQ n).take 0) ((cLQ n).take 0)) (.slice none 0 0) from HS0)
 clear HS0
 unfold mZ at *
 generalize w2.alloc (Obj.cells #[.slice bA (aG n).length bc, .slice iA (aC n).length ic, .slice none 0 0, .slice none 0 0, .slice none 0 0, .slice none 0 0, .slice none 0 0, .slice none 0 0] 115) = w3 at *
 generalize w2.heap.size = g at *
 have x2 := (HG.out.below HB.out HG.out.lt).cell 2
 change w3.cell? ⟨gn, 2, none⟩ = some (.slice bra n.branches.length brc) at x2
 go_wp2
 clear x2
 go_loopg [17] (n.branches.length - 0) (fun r v wr => ∃ k : Nat, ∃ rs : Nat → Value, ∃ qs : Nat → Value, r = n.branches.length - k ∧ v = I k ∧ k ≤ n.branches.length ∧ Hid (rs 1 = .slice iA (aC n).length ic) ∧ Hid (MS wr w0.heap.size g rs (isO (aG n) (aC n) ((cF n).take k) ((toL n).take k) []) qs (tsO ((bLQ n).take k) ((cLQ n).take k)) (.slice none 0 0)) ∧ Hid (Below w0.heap.size w0 wr))
 case atStart => exact ⟨0, _, _, rfl, rfl, by omega, HIS, HS, HB⟩
 case round =>
  clear HIS HS HB
  obtain ⟨k, rs, qs, rfl, rfl, hk, HIS, HS, HB⟩ := hrel
  obtain ⟨wa, rfl⟩ := wE wr
  by_cases hlt : k < n.branches.length
  ·obtain ⟨b, hb⟩ : ∃ b, n.branches[k]? = some b := ⟨_, gE hlt⟩
   obtain ⟨bb, off, e, hbb, u0, u1, u2, u3, u4, u5, u6, u7, u8⟩ := (HN.out.below HB.out).br0 hb
   simp only at e
   subst e
   obtain ⟨hsr, hds, _, hok⟩ := HV.out.br b (List.mem_of_getElem? hb)
   have HF1 := aH (vA hok)
   have HF2 := aH (aFz hok)
   have hbn := mG hok
   have hbp := kG hok
   have h1s := fU hsr
   have h1d := fU hds
   have HRS := aH (iP HV.out hsr)
   have HRD := aH (iP HV.out hds)
   have HX1 := aH (show (cF n).take (k + 1) = (cF n).take k ++ [bR n b.src] from nA _ hb)
   have HX2 := aH (show (toL n).take (k + 1) = (toL n).take k ++ [bR n b.dst] from nA _ hb)
   have HX3 := aH (show (bLQ n).take (k + 1) = (bLQ n).take k ++ [bQ b] from nA _ hb)
   have HX4 := aH (show (cLQ n).take (k + 1) = (cLQ n).take k ++ [cQ b] from nA _ hb)
   have HBL := aH (cZ HV.out)
   obtain ⟨nm, sr, ds, bx, ta, sh, li, so, ho⟩ := b
   simp only at u0 u1 u2 u3 u4 u5 u6 u7 u8 hbn hbp h1s h1d
   obtain ⟨hx0, hx1, ht0, ht1, hh0, hh1⟩ := hbn
   obtain ⟨hp0, hp1⟩ := hbp
   clear hsr hds hok hb
   go_upto_region 5 with (fail)
   clear u0 u1 u2 u3 u4 u5 u6 u7 u8
   have hz := aD wa (Obj.cells #[.string nm, .string sr, .string ds, I bx, I ta, I sh, I li, I so, I ho] 41)
   have HX := aH (Blk.new wa 41 #[.string nm, .string sr, .string ds, I bx, I ta, I sh, I li, I so, I ho])
   replace HS := aH (HS.out.call hz)
   replace HB := bT HB hz
   clear hz
   generalize wa.alloc (Obj.cells #[.string nm, .string sr, .string ds, I bx, I ta, I sh, I li, I so, I ho] 41) = W0 at *
   generalize wa.heap.size = gb at *
   skip
   have hb := aY W0
   replace HS := aH (HS.out.call hb)
   replace HB := bT HB hb
   replace HX := bL HX hb
   clear hb
   obtain ⟨jx, hjx⟩ : ∃ jx : Nat, Lib.idxOfS n.nodes sr = jx := Int.eq_ofNat_of_zero_le h1s.1
   have hjl : jx < (aG n).length := by rw [HBL.out]; omega
   obtain ⟨b0, o0, k0, e0, hb0, hc0⟩ := HS.out.intAt (j := 0) (by decide) (k := jx) hjl
   change rs 0 = .slice (some ⟨b0, o0, none⟩) (aG n).length k0 at e0
   have hbe : (aG n).getD jx 0 = bR n sr := by rw [bR, at_, hjx, Int.toNat_natCast]
   change _ = some (I ((aG n).getD jx 0)) at hc0
   rw [hbe] at hc0
   clear hbe
   have HC0 := aH hc0
   have HM := aH (show W0.drew.cell? ⟨g, 2, none⟩ = some (rs 2) from HS.out.cellI (j := 2) (by decide))
   have HM0 := aH (show W0.drew.cell? ⟨g, 0, none⟩ = some (.slice (some ⟨b0, o0, none⟩) (aG n).length k0) by rw [← e0]; exact HS.out.cellI (j := 0) (by decide))
   have HGN := aH (show W0.drew.cell? ⟨gn, 0, none⟩ = some (.slice na n.nodes.length nc) from (HG.out.below HB.out HG.out.lt).cell 0)
   have HXC := aH (show W0.drew.cell? ⟨gb, 1, none⟩ = some (.string sr) from HX.out.cell 1)
   clear hc0 hb0 e0
   refine aI (fun w' => w'.cell? ⟨g, 2, none⟩ = some (rs 2) ∧ w'.cell? ⟨g, 0, none⟩ = some (.slice (some ⟨b0, o0, none⟩) (aG n).length k0) ∧ w'.cell? ⟨b0, o0 + jx, none⟩ = some (I (bR n sr)) ∧ w'.cell? ⟨gn, 0, none⟩ = some (.slice na n.nodes.length nc) ∧ w'.cell? ⟨gb, 1, none⟩ = some (.string sr)) 18 (by kernel_rfl) ?_
   generalize W0.drew = X1 at *
   refine tkS ⟨HM.out, HM0.out, HC0.out, HGN.out, HXC.out⟩ fun hSS => ?_
   refine tkP 0 (.pointer (some ⟨g, 0, none⟩)) rfl (Or.inl ⟨by rfl, ?_⟩) hSS ?_
   ·intro w _
    go_simp
   refine aZ 1 (.pointer (some ⟨g, 0, none⟩)) rfl hSS ?_
   refine aZ 2 (.pointer (some ⟨g, 0, none⟩)) rfl hSS ?_
   refine aZ 3 (.pointer (some ⟨g, 2, none⟩)) rfl hSS ?_
   refine aZ 4 (rs 2) rfl hSS ?_
   refine aZ 5 (.pointer (some ⟨g, 0, none⟩)) rfl hSS ?_
   refine aZ 6 (.pointer (some ⟨g, 0, none⟩)) rfl hSS ?_
   refine aZ 7 (.pointer (some ⟨g, 0, none⟩)) rfl hSS ?_
   refine aZ 8 (.pointer (some ⟨g, 0, none⟩)) rfl hSS ?_
   refine aZ 9 (.slice (some ⟨b0, o0, none⟩) (aG n).length k0) rfl hSS ?_
   refine aZ 10 (.pointer (some ⟨gn, 0, none⟩)) rfl hSS ?_
   refine aZ 11 (.slice na n.nodes.length nc) rfl hSS ?_
   refine aZ 12 (.pointer (some ⟨gb, 1, none⟩)) rfl hSS ?_
   refine aZ 13 (.string sr) rfl hSS ?_
   refine on1 14 fun K hK => ?_
   go_simp
   go_at_call 18
   refine (nF n.nodes _ na nc sr X1 _ rfl (HN.out.below HB.out).nodes (by omega)).mono ?_
   rintro e w' ⟨rfl, rfl⟩
   rw [hjx]
   refine hK.out _ _ (fun _ => ⟨HM.out, HM0.out, HC0.out, HGN.out, HXC.out⟩) ?_
   clear hK K
   refine tkS ⟨HM.out, HM0.out, HC0.out, HGN.out, HXC.out⟩ fun hSS => ?_
   refine aZ 15 (.pointer (some ⟨b0, o0 + jx, none⟩)) rfl hSS ?_
   refine aZ 16 (I (bR n sr)) rfl hSS ?_
   refine on1 17 fun K hK => ?_
   go_simp
   have hb := aD X1 (Obj.cells #[I (bR n sr)] 3)
   have HY := aH (lC X1 3 (I (bR n sr)))
   replace HM := aH (aA HM.out hb)
   replace HM0 := aH (aA HM0.out hb)
   replace HC0 := aH (aA HC0.out hb)
   replace HGN := aH (aA HGN.out hb)
   replace HXC := aH (aA HXC.out hb)
   replace HS := aH (HS.out.call hb)
   replace HB := bT HB hb
   replace HX := bL HX hb
   clear hb
   refine hK.out _ _ (fun _ => ⟨HM.out, HM0.out, HC0.out, HGN.out, HXC.out⟩) ?_
   clear hK K HM0 HC0 HGN HXC
   generalize X1.heap.size = gx at *
   generalize X1.alloc (Obj.cells #[I (bR n sr)] 3) = Y1 at *
   refine on1 18 fun K hK => ?_
   refine tI (by rfl) _ _ pX (by rfl) w0.heap.size (rs 2) (((cF n).take k).map I) (by kernel_rfl) (HS.out.nrow (j := 2) (by decide) (by decide)) (some ⟨gx, 0, none⟩) 1 1 (by kernel_rfl) [I (bR n sr)] HY.out (fun u hu => by rw [List.mem_singleton.1 hu]; exact ⟨(fun m e => by cases e), rfl⟩) (by rw [List.length_map, List.length_take]; omega) HB.out.size ?_
   intro v' Z1 hap
   obtain ⟨A5, l5, c5, rfl⟩ := dO hap.row.val
   have hap2 : NApd Y1 w0.heap.size 3 (rs 2) ((((cF n).take k) ++ [bR n sr]).map I) (.slice A5 l5 c5) Z1 := by rw [List.map_append]; exact hap
   obtain ⟨hs, _, hkp⟩ := HS.out.appI (j := 2) (by decide) (by decide) hap2
   have hgl := HS.out.blk.lt
   have hZ : Blk Z1 g mZ _ := (eT hap.grown hgl (HS.out.noG (j := 2) (by decide))).trans HS.out.blk
   have z0 : Z1.cell? ⟨g, 2, none⟩ = some (rs 2) := by rw [hZ.cell]; rfl
   have y0 := hZ.frozen 2
   have hgx : gb ≠ g := kH HX.out HS.out.blk (by decide)
   have hxl := HX.out.lt
   have hxo := HS.out.rowNe HX.out (by decide) (j := 2) (by decide)
   have HX9 := aH (show Blk (Z1.setCell ⟨g, 2, none⟩ (.slice A5 l5 c5)) gb 41 #[.string nm, .string sr, .string ds, I bx, I ta, I sh, I li, I so, I ho] from (hkp gb hxl hgx hxo).trans HX.out)
   have HB9 := aH ((HB.out.trans (hap.below (HS.out.nrow (j := 2) (by decide) (by decide)) HB.out.size)).setCell (p := ⟨g, 2, none⟩) hgb (.slice A5 l5 c5))
   have HS9 := aH hs
   have HM9 := aH z0
   have HY9 := aH y0
   clear hs hkp hap hap2 hgl hZ hgx hxl hxo z0 y0 HS HB HX HM HY
   refine hK.out _ _ (fun h => absurd h (by decide)) ?_
   clear hK K
   refine on1 19 fun K hK => ?_
   go_simp
   refine hK.out _ _ (fun h => absurd h (by decide)) ?_
   clear hK K
   refine on1 20 fun K hK => ?_
   go_simp
   refine hK.out _ _ (fun h => absurd h (by decide)) ?_
   clear hK K
   have z0 := HM9.out
   have y0 := HY9.out
   refine on1 21 fun K hK => ?_
   go_simp
   clear z0 y0 HM9 HY9
   refine hK.out _ _ (fun h => absurd h (by decide)) ?_
   clear hK K
   refine aE (by kernel_rfl) ?_ _
   have HS := HS9
   have HB := HB9
   have HX := HX9
   clear HS9 HB9 HX9
   replace HS := aH (show MS (Z1.setCell ⟨g, 2, none⟩ (.slice A5 l5 c5)) w0.heap.size g (eK rs 2 (.slice A5 l5 c5)) (isO (aG n) (aC n) ((cF n).take (k + 1)) ((toL n).take k) []) qs (tsO ((bLQ n).take k) ((cLQ n).take k)) (.slice none 0 0) by
    have h := HS.out
    rw [aQn] at h
    rw [HX1.out]
    exact h)
   replace HIS := aH (show eK rs 2 (.slice A5 l5 c5) 1 = _ from (dI _ _ (by decide)).trans HIS.out)
   generalize (Z1.setCell ⟨g, 2, none⟩ (.slice A5 l5 c5)) = V1 at *
   generalize eK rs 2 (.slice A5 l5 c5) = rs1 at *
   clear hjx hjl
   go_upto_region 6 with (fail)
   have hb := aY V1
   replace HS := aH (HS.out.call hb)
   replace HB := bT HB hb
   replace HX := bL HX hb
   clear hb
   obtain ⟨jx, hjx⟩ : ∃ jx : Nat, Lib.idxOfS n.nodes ds = jx := Int.eq_ofNat_of_zero_le h1d.1
   have hjl : jx < (aG n).length := by rw [HBL.out]; omega
   obtain ⟨b0, o0, k0, e0, hb0, hc0⟩ := HS.out.intAt (j := 0) (by decide) (k := jx) hjl
   change rs1 0 = .slice (some ⟨b0, o0, none⟩) (aG n).length k0 at e0
   have hbe : (aG n).getD jx 0 = bR n ds := by rw [bR, at_, hjx, Int.toNat_natCast]
   change _ = some (I ((aG n).getD jx 0)) at hc0
   rw [hbe] at hc0
   clear hbe
   have HC0 := aH hc0
   have HM := aH (show V1.drew.cell? ⟨g, 3, none⟩ = some (rs1 3) from HS.out.cellI (j := 3) (by decide))
   have HM0 := aH (show V1.drew.cell? ⟨g, 0, none⟩ = some (.slice (some ⟨b0, o0, none⟩) (aG n).length k0) by rw [← e0]; exact HS.out.cellI (j := 0) (by decide))
   have HGN := aH (show V1.drew.cell? ⟨gn, 0, none⟩ = some (.slice na n.nodes.length nc) from (HG.out.below HB.out HG.out.lt).cell 0)
   have HXC := aH (show V1.drew.cell? ⟨gb, 2, none⟩ = some (.string ds) from HX.out.cell 2)
   clear hc0 hb0 e0
   refine aI (fun w' => w'.cell? ⟨g, 3, none⟩ = some (rs1 3) ∧ w'.cell? ⟨g, 0, none⟩ = some (.slice (some ⟨b0, o0, none⟩) (aG n).length k0) ∧ w'.cell? ⟨b0, o0 + jx, none⟩ = some (I (bR n ds)) ∧ w'.cell? ⟨gn, 0, none⟩ = some (.slice na n.nodes.length nc) ∧ w'.cell? ⟨gb, 2, none⟩ = some (.string ds)) 18 (by kernel_rfl) ?_
   generalize V1.drew = X2 at *
   refine tkS ⟨HM.out, HM0.out, HC0.out, HGN.out, HXC.out⟩ fun hSS => ?_
   refine tkP 0 (.pointer (some ⟨g, 0, none⟩)) rfl (Or.inl ⟨by rfl, ?_⟩) hSS ?_
   ·intro w _
    go_simp
   refine aZ 1 (.pointer (some ⟨g, 0, none⟩)) rfl hSS ?_
   refine aZ 2 (.pointer (some ⟨g, 0, none⟩)) rfl hSS ?_
   refine aZ 3 (.pointer (some ⟨g, 3, none⟩)) rfl hSS ?_
   refine aZ 4 (rs1 3) rfl hSS ?_
   refine aZ 5 (.pointer (some ⟨g, 0, none⟩)) rfl hSS ?_
   refine aZ 6 (.pointer (some ⟨g, 0, none⟩)) rfl hSS ?_
   refine aZ 7 (.pointer (some ⟨g, 0, none⟩)) rfl hSS ?_
   refine aZ 8 (.pointer (some ⟨g, 0, none⟩)) rfl hSS ?_
   refine aZ 9 (.slice (some ⟨b0, o0, none⟩) (aG n).length k0) rfl hSS ?_
   refine aZ 10 (.pointer (some ⟨gn, 0, none⟩)) rfl hSS ?_
   refine aZ 11 (.slice na n.nodes.length nc) rfl hSS ?_
   refine aZ 12 (.pointer (some ⟨gb, 2, none⟩)) rfl hSS ?_
   refine aZ 13 (.string ds) rfl hSS ?_
   refine on1 14 fun K hK => ?_
   go_simp
   go_at_call 18
   refine (nF n.nodes _ na nc ds X2 _ rfl (HN.out.below HB.out).nodes (by omega)).mono ?_
   rintro e w' ⟨rfl, rfl⟩
   rw [hjx]
   refine hK.out _ _ (fun _ => ⟨HM.out, HM0.out, HC0.out, HGN.out, HXC.out⟩) ?_
   clear hK K
   refine tkS ⟨HM.out, HM0.out, HC0.out, HGN.out, HXC.out⟩ fun hSS => ?_
   refine aZ 15 (.pointer (some ⟨b0, o0 + jx, none⟩)) rfl hSS ?_
   refine aZ 16 (I (bR n ds)) rfl hSS ?_
   refine on1 17 fun K hK => ?_
   go_simp
   have hb := aD X2 (Obj.cells #[I (bR n ds)] 3)
   have HY := aH (lC X2 3 (I (bR n ds)))
   replace HM := aH (aA HM.out hb)
   replace HM0 := aH (aA HM0.out hb)
   replace HC0 := aH (aA HC0.out hb)
   replace HGN := aH (aA HGN.out hb)
   replace HXC := aH (aA HXC.out hb)
   replace HS := aH (HS.out.call hb)
   replace HB := bT HB hb
   replace HX := bL HX hb
   clear hb
   refine hK.out _ _ (fun _ => ⟨HM.out, HM0.out, HC0.out, HGN.out, HXC.out⟩) ?_
   clear hK K HM0 HC0 HGN HXC
   generalize X2.heap.size = gx at *
   generalize X2.alloc (Obj.cells #[I (bR n ds)] 3) = Y2 at *
   refine on1 18 fun K hK => ?_
   refine tI (by rfl) _ _ pX (by rfl) w0.heap.size (rs1 3) (((toL n).take k).map I) (by kernel_rfl) (HS.out.nrow (j := 3) (by decide) (by decide)) (some ⟨gx, 0, none⟩) 1 1 (by kernel_rfl) [I (bR n ds)] HY.out (fun u hu => by rw [List.mem_singleton.1 hu]; exact ⟨(fun m e => by cases e), rfl⟩) (by rw [List.length_map, List.length_take]; omega) HB.out.size ?_
   intro v' Z2 hap
   obtain ⟨A5, l5, c5, rfl⟩ := dO hap.row.val
   have hap2 : NApd Y2 w0.heap.size 3 (rs1 3) ((((toL n).take k) ++ [bR n ds]).map I) (.slice A5 l5 c5) Z2 := by rw [List.map_append]; exact hap
   obtain ⟨hs, _, hkp⟩ := HS.out.appI (j := 3) (by decide) (by decide) hap2
   have hgl := HS.out.blk.lt
   have hZ : Blk Z2 g mZ _ := (eT hap.grown hgl (HS.out.noG (j := 3) (by decide))).trans HS.out.blk
   have z0 : Z2.cell? ⟨g, 3, none⟩ = some (rs1 3) := by rw [hZ.cell]; rfl
   have y0 := hZ.frozen 3
   have hgx : gb ≠ g := kH HX.out HS.out.blk (by decide)
   have hxl := HX.out.lt
   have hxo := HS.out.rowNe HX.out (by decide) (j := 3) (by decide)
   have HX9 := aH (show Blk (Z2.setCell ⟨g, 3, none⟩ (.slice A5 l5 c5)) gb 41 #[.string nm, .string sr, .string ds, I bx, I ta, I sh, I li, I so, I ho] from (hkp gb hxl hgx hxo).trans HX.out)
   have HB9 := aH ((HB.out.trans (hap.below (HS.out.nrow (j := 3) (by decide) (by decide)) HB.out.size)).setCell (p := ⟨g, 3, none⟩) hgb (.slice A5 l5 c5))
   have HS9 := aH hs
   have HM9 := aH z0
   have HY9 := aH y0
   clear hs hkp hap hap2 hgl hZ hgx hxl hxo z0 y0 HS HB HX HM HY
   refine hK.out _ _ (fun h => absurd h (by decide)) ?_
   clear hK K
   refine on1 19 fun K hK => ?_
   go_simp
   refine hK.out _ _ (fun h => absurd h (by decide)) ?_
   clear hK K
   refine on1 20 fun K hK => ?_
   go_simp
   refine hK.out _ _ (fun h => absurd h (by decide)) ?_
   clear hK K
   have z0 := HM9.out
   have y0 := HY9.out
   refine on1 21 fun K hK => ?_
   go_simp
   clear z0 y0 HM9 HY9
   refine hK.out _ _ (fun h => absurd h (by decide)) ?_
   clear hK K
   refine aE (by kernel_rfl) ?_ _
   have HS := HS9
   have HB := HB9
   have HX := HX9
   clear HS9 HB9 HX9
   replace HS := aH (show MS (Z2.setCell ⟨g, 3, none⟩ (.slice A5 l5 c5)) w0.heap.size g (eK rs1 3 (.slice A5 l5 c5)) (isO (aG n) (aC n) ((cF n).take (k + 1)) ((toL n).take (k + 1)) []) qs (tsO ((bLQ n).take k) ((cLQ n).take k)) (.slice none 0 0) by
    have h := HS.out
    rw [aQo] at h
    rw [HX2.out]
    exact h)
   replace HIS := aH (show eK rs1 3 (.slice A5 l5 c5) 1 = _ from (dI _ _ (by decide)).trans HIS.out)
   generalize (Z2.setCell ⟨g, 3, none⟩ (.slice A5 l5 c5)) = V2 at *
   generalize eK rs1 3 (.slice A5 l5 c5) = rs2 at *
   clear hjx hjl
   have HC := aH (uC 1000000 (bx * ta) V2 (by decide) (by decide) (by omega) (by omega) (by omega))
   have x3 := HX.out.cell 3
   have x4 := HX.out.cell 4
   change _ = some (I bx) at x3
   change _ = some (I ta) at x4
   go_wp2_with fail
   refine HC.out.mono ?_
   rintro e Z3 ⟨vv, rfl, hv, hb⟩
   clear HC x3 x4
   obtain ⟨tb, T1, t1, u1, T2, t2, u2, rfl⟩ := hv.bools
   have HQ := aH hv
   clear hv
   replace HS := aH (HS.out.call hb)
   replace HB := bT HB hb
   replace HX := bL HX hb
   clear hb
   go_upto_region 8 with (fail)
   have hb := aD Z3 (Obj.cells #[.bool tb, .slice T1 t1 u1, .bool false, .slice T2 t2 u2] 122)
   have HR := aH (Blk.new Z3 122 #[.bool tb, .slice T1 t1 u1, .bool false, .slice T2 t2 u2])
   have HQN := aH (show ∀ j, j < 2 → (qs j).ownBlock ≠ some Z3.heap.size from fun j hj e => Nat.lt_irrefl _ ((HS.out.rq j hj).lt e).2)
   replace HQ := aH (HQ.out.ext hb)
   replace HS := aH (HS.out.call hb)
   replace HB := bT HB hb
   replace HX := bL HX hb
   clear hb
   generalize Z3.alloc (Obj.cells #[.bool tb, .slice T1 t1 u1, .bool false, .slice T2 t2 u2] 122) = W6 at *
   generalize Z3.heap.size = gr at *
   skip
   have hb := aY W6
   replace HR := bL HR hb
   replace HQ := aH (HQ.out.ext hb)
   replace HS := aH (HS.out.call hb)
   replace HB := bT HB hb
   replace HX := bL HX hb
   clear hb
   have HM := aH (show W6.drew.cell? ⟨g, 4, none⟩ = some (qs 0) from HS.out.cellQ (j := 0) (by decide))
   refine aI (fun w' => w'.cell? ⟨g, 4, none⟩ = some (qs 0) ∧ w'.cell? ⟨gr, 0, none⟩ = some (.bool tb) ∧ w'.cell? ⟨gr, 1, none⟩ = some (.slice T1 t1 u1) ∧ w'.cell? ⟨gr, 2, none⟩ = some (.bool false) ∧ w'.cell? ⟨gr, 3, none⟩ = some (.slice T2 t2 u2)) 7 (by kernel_rfl) ?_
   generalize W6.drew = X3 at *
   refine tkS ⟨HM.out, HR.out.cell 0, HR.out.cell 1, HR.out.cell 2, HR.out.cell 3⟩ fun hSS => ?_
   refine tkP 0 (.pointer (some ⟨g, 0, none⟩)) rfl (Or.inl ⟨by rfl, ?_⟩) hSS ?_
   ·intro w _
    go_simp
   refine aZ 1 (.pointer (some ⟨g, 0, none⟩)) rfl hSS ?_
   refine aZ 2 (.pointer (some ⟨g, 0, none⟩)) rfl hSS ?_
   refine aZ 3 (.pointer (some ⟨g, 4, none⟩)) rfl hSS ?_
   refine aZ 4 (qs 0) rfl hSS ?_
   refine aZ 5 (.agg #[.bool tb, .slice T1 t1 u1, .bool false, .slice T2 t2 u2]) rfl hSS ?_
   refine on1 6 fun K hK => ?_
   go_simp
   have hb := aD X3 (Obj.cells #[.bool tb, .slice T1 t1 u1, .bool false, .slice T2 t2 u2] 122)
   have HY := aH (Blk.new X3 122 #[.bool tb, .slice T1 t1 u1, .bool false, .slice T2 t2 u2])
   replace HM := aH (aA HM.out hb)
   replace HR := bL HR hb
   replace HQ := aH (HQ.out.ext hb)
   replace HS := aH (HS.out.call hb)
   replace HB := bT HB hb
   replace HX := bL HX hb
   clear hb
   refine hK.out _ _ (fun _ => ⟨HM.out, HR.out.cell 0, HR.out.cell 1, HR.out.cell 2, HR.out.cell 3⟩) ?_
   clear hK K
   generalize X3.heap.size = gx at *
   generalize X3.alloc (Obj.cells #[.bool tb, .slice T1 t1 u1, .bool false, .slice T2 t2 u2] 122) = Y3 at *
   refine on1 7 fun K hK => ?_
   refine oY (by rfl) _ _ (by rfl) w0.heap.size (qs 0) ((bLQ n).take k) (by kernel_rfl) (HS.out.rq 0 (by decide)) gx (by kernel_rfl) HY.out HQ.out (by rw [List.length_take]; omega) HB.out.size ?_
   intro v' Z3 hap
   obtain ⟨A5, l5, c5, rfl⟩ := dO hap.row.val
   obtain ⟨hs, hkw, hkp⟩ := HS.out.appQ (j := 0) (by decide) hap
   have hgl := HS.out.blk.lt
   have hZ : Blk Z3 g mZ _ := (eT hap.grown hgl (HS.out.noGq (j := 0) (by decide))).trans HS.out.blk
   have z0 : Z3.cell? ⟨g, 4, none⟩ = some (qs 0) := by rw [hZ.cell]; rfl
   have y0 := hZ.frozen 4
   have hgx : gb ≠ g := kH HX.out HS.out.blk (by decide)
   have hxl := HX.out.lt
   have hxo := HS.out.ratNe HX.out (by decide) (j := 0) (by decide)
   have hrg : gr ≠ g := kH HR.out HS.out.blk (by decide)
   have hrl := HR.out.lt
   have hro := HQN.out 0 (by decide)
   have HX9 := aH (show Blk (Z3.setCell ⟨g, 4, none⟩ (.slice A5 l5 c5)) gb 41 #[.string nm, .string sr, .string ds, I bx, I ta, I sh, I li, I so, I ho] from (hkp gb hxl hgx hxo).trans HX.out)
   have HR9 := aH (show Blk (Z3.setCell ⟨g, 4, none⟩ (.slice A5 l5 c5)) gr 122 #[.bool tb, .slice T1 t1 u1, .bool false, .slice T2 t2 u2] from (hkp gr hrl hrg hro).trans HR.out)
   have HQ9 := aH (HQ.out.kw hkw)
   have HB9 := aH ((HB.out.trans (hap.below (HS.out.rq 0 (by decide)) HB.out.size)).setCell (p := ⟨g, 4, none⟩) hgb (.slice A5 l5 c5))
   have HS9 := aH hs
   have HM9 := aH z0
   have HY9 := aH y0
   replace HQN := aH (show ∀ i, 0 < i → i < 2 → (eK qs 0 (.slice A5 l5 c5) i).ownBlock ≠ some gr from fun i h1 h2 => by rw [dI _ _ (by omega)]; exact HQN.out i h2)
   clear hs hkp hkw hap hgl hZ hgx hxl hxo hrg hrl hro z0 y0 HS HB HX HR HQ HM HY
   refine hK.out _ _ (fun h => absurd h (by decide)) ?_
   clear hK K
   refine on1 8 fun K hK => ?_
   go_simp
   refine hK.out _ _ (fun h => absurd h (by decide)) ?_
   clear hK K
   refine on1 9 fun K hK => ?_
   go_simp
   refine hK.out _ _ (fun h => absurd h (by decide)) ?_
   clear hK K
   have z0 := HM9.out
   have y0 := HY9.out
   refine on1 10 fun K hK => ?_
   go_simp
   clear z0 y0 HM9 HY9
   refine hK.out _ _ (fun h => absurd h (by decide)) ?_
   clear hK K
   refine aE (by kernel_rfl) ?_ _
   have HS := HS9
   have HB := HB9
   have HX := HX9
   have HR := HR9
   have HQ := HQ9
   clear HS9 HB9 HX9 HR9 HQ9
   replace HS := aH (show MS (Z3.setCell ⟨g, 4, none⟩ (.slice A5 l5 c5)) w0.heap.size g rs2 (isO (aG n) (aC n) ((cF n).take (k + 1)) ((toL n).take (k + 1)) []) (eK qs 0 (.slice A5 l5 c5)) (tsO ((bLQ n).take (k + 1)) ((cLQ n).take k)) (.slice none 0 0) by
    have h := HS.out
    rw [aQq] at h
    rw [HX3.out]
    exact h)
   generalize (Z3.setCell ⟨g, 4, none⟩ (.slice A5 l5 c5)) = V3 at *
   generalize eK qs 0 (.slice A5 l5 c5) = qs1 at *
   replace HQN := aH (show ∀ j, 0 < j → j < 2 → (qs1 j).ownBlock ≠ some gr from HQN.out)
   skip
   go_upto_region 9 with (fail)
   have hb := aY V3
   replace HR := bL HR hb
   replace HQ := aH (HQ.out.ext hb)
   replace HS := aH (HS.out.call hb)
   replace HB := bT HB hb
   replace HX := bL HX hb
   clear hb
   have HM := aH (show V3.drew.cell? ⟨g, 5, none⟩ = some (qs1 1) from HS.out.cellQ (j := 1) (by decide))
   have HXC := aH (show V3.drew.cell? ⟨gb, 5, none⟩ = some (I sh) from HX.out.cell 5)
   refine aI (fun w' => w'.cell? ⟨g, 5, none⟩ = some (qs1 1) ∧ w'.cell? ⟨gr, 0, none⟩ = some (.bool tb) ∧ w'.cell? ⟨gr, 1, none⟩ = some (.slice T1 t1 u1) ∧ w'.cell? ⟨gr, 2, none⟩ = some (.bool false) ∧ w'.cell? ⟨gr, 3, none⟩ = some (.slice T2 t2 u2) ∧ w'.cell? ⟨gb, 5, none⟩ = some (I sh)) 12 (by kernel_rfl) ?_
   generalize V3.drew = X4 at *
   refine tkS ⟨HM.out, HR.out.cell 0, HR.out.cell 1, HR.out.cell 2, HR.out.cell 3, HXC.out⟩ fun hSS => ?_
   refine tkP 0 (.pointer (some ⟨g, 0, none⟩)) rfl (Or.inl ⟨by rfl, ?_⟩) hSS ?_
   ·intro w _
    go_simp
   refine aZ 1 (.pointer (some ⟨g, 0, none⟩)) rfl hSS ?_
   refine aZ 2 (.pointer (some ⟨g, 0, none⟩)) rfl hSS ?_
   refine aZ 3 (.pointer (some ⟨g, 5, none⟩)) rfl hSS ?_
   refine aZ 4 (qs1 1) rfl hSS ?_
   refine aZ 5 (.agg #[.bool tb, .slice T1 t1 u1, .bool false, .slice T2 t2 u2]) rfl hSS ?_
   refine aZ 6 (.pointer (some ⟨gb, 5, none⟩)) rfl hSS ?_
   refine aZ 7 (I sh) rfl hSS ?_
   refine tq 8 (I (-sh)) rfl ?_ hSS ?_
   ·intro w hSw
    go_simp
    try exact IntWalk.i64_in _ (by omega)
   refine on1 9 fun K hK => ?_
   go_simp
   go_at_call 121
   refine (uC (-sh) 1000 X4 (by omega) (by omega) (by decide) (by decide) (by decide)).mono ?_
   rintro e U1 ⟨vs_, rfl, hvs, hb⟩
   have HVS := aH hvs
   replace HM := aH (aA HM.out hb)
   replace HXC := aH (aA HXC.out hb)
   replace HR := bL HR hb
   replace HQ := aH (HQ.out.ext hb)
   replace HS := aH (HS.out.call hb)
   replace HB := bT HB hb
   replace HX := bL HX hb
   clear hb
   clear hvs
   refine hK.out _ _ (fun _ => ⟨HM.out, HR.out.cell 0, HR.out.cell 1, HR.out.cell 2, HR.out.cell 3, HXC.out⟩) ?_
   clear hK K
   refine on1 10 fun K hK => ?_
   go_simp
   go_at_call 109
   refine (nI _ _ _ _ U1 HQ.out HVS.out (N := 1) (by decide) HF1.out HF2.out).mono ?_
   rintro e U2 ⟨vm, rfl, hvm, hb⟩
   obtain ⟨mb, M1, m1, p1, M2, m2, p2, rfl⟩ := hvm.bools
   have HVM := aH hvm
   replace HM := aH (aA HM.out hb)
   replace HXC := aH (aA HXC.out hb)
   replace HR := bL HR hb
   replace HQ := aH (HQ.out.ext hb)
   replace HS := aH (HS.out.call hb)
   replace HB := bT HB hb
   replace HX := bL HX hb
   clear hb
   clear hvm HVS
   refine hK.out _ _ (fun _ => ⟨HM.out, HR.out.cell 0, HR.out.cell 1, HR.out.cell 2, HR.out.cell 3, HXC.out⟩) ?_
   clear hK K
   refine on1 11 fun K hK => ?_
   go_simp
   have hb := aD U2 (Obj.cells #[.bool mb, .slice M1 m1 p1, .bool false, .slice M2 m2 p2] 122)
   have HY := aH (Blk.new U2 122 #[.bool mb, .slice M1 m1 p1, .bool false, .slice M2 m2 p2])
   replace HM := aH (aA HM.out hb)
   replace HR := bL HR hb
   replace HQ := aH (HQ.out.ext hb)
   replace HXC := aH (aA HXC.out hb)
   replace HVM := aH (HVM.out.ext hb)
   replace HS := aH (HS.out.call hb)
   replace HB := bT HB hb
   replace HX := bL HX hb
   clear hb
   refine hK.out _ _ (fun _ => ⟨HM.out, HR.out.cell 0, HR.out.cell 1, HR.out.cell 2, HR.out.cell 3, HXC.out⟩) ?_
   clear hK K HXC
   generalize U2.heap.size = gx at *
   generalize U2.alloc (Obj.cells #[.bool mb, .slice M1 m1 p1, .bool false, .slice M2 m2 p2] 122) = Y4 at *
   refine on1 12 fun K hK => ?_
   refine oY (by rfl) _ _ (by rfl) w0.heap.size (qs1 1) ((cLQ n).take k) (by kernel_rfl) (HS.out.rq 1 (by decide)) gx (by kernel_rfl) HY.out HVM.out (by rw [List.length_take]; omega) HB.out.size ?_
   intro v' Z4 hap
   obtain ⟨A5, l5, c5, rfl⟩ := dO hap.row.val
   obtain ⟨hs, hkw, hkp⟩ := HS.out.appQ (j := 1) (by decide) hap
   have hgl := HS.out.blk.lt
   have hZ : Blk Z4 g mZ _ := (eT hap.grown hgl (HS.out.noGq (j := 1) (by decide))).trans HS.out.blk
   have z0 : Z4.cell? ⟨g, 5, none⟩ = some (qs1 1) := by rw [hZ.cell]; rfl
   have y0 := hZ.frozen 5
   have hgx : gb ≠ g := kH HX.out HS.out.blk (by decide)
   have hxl := HX.out.lt
   have hxo := HS.out.ratNe HX.out (by decide) (j := 1) (by decide)
   have hrg : gr ≠ g := kH HR.out HS.out.blk (by decide)
   have hrl := HR.out.lt
   have hro := HQN.out 1 (by decide) (by decide)
   have HX9 := aH (show Blk (Z4.setCell ⟨g, 5, none⟩ (.slice A5 l5 c5)) gb 41 #[.string nm, .string sr, .string ds, I bx, I ta, I sh, I li, I so, I ho] from (hkp gb hxl hgx hxo).trans HX.out)
   have HR9 := aH (show Blk (Z4.setCell ⟨g, 5, none⟩ (.slice A5 l5 c5)) gr 122 #[.bool tb, .slice T1 t1 u1, .bool false, .slice T2 t2 u2] from (hkp gr hrl hrg hro).trans HR.out)
   have HQ9 := aH (HQ.out.kw hkw)
   have HB9 := aH ((HB.out.trans (hap.below (HS.out.rq 1 (by decide)) HB.out.size)).setCell (p := ⟨g, 5, none⟩) hgb (.slice A5 l5 c5))
   have HS9 := aH hs
   have HM9 := aH z0
   have HY9 := aH y0
   skip
   clear hs hkp hkw hap hgl hZ hgx hxl hxo hrg hrl hro z0 y0 HS HB HX HR HQ HM HY HVM
   refine hK.out _ _ (fun h => absurd h (by decide)) ?_
   clear hK K
   refine on1 13 fun K hK => ?_
   go_simp
   refine hK.out _ _ (fun h => absurd h (by decide)) ?_
   clear hK K
   refine on1 14 fun K hK => ?_
   go_simp
   refine hK.out _ _ (fun h => absurd h (by decide)) ?_
   clear hK K
   have z0 := HM9.out
   have y0 := HY9.out
   refine on1 15 fun K hK => ?_
   go_simp
   clear z0 y0 HM9 HY9
   refine hK.out _ _ (fun h => absurd h (by decide)) ?_
   clear hK K
   refine aE (by kernel_rfl) ?_ _
   have HS := HS9
   have HB := HB9
   have HX := HX9
   have HR := HR9
   have HQ := HQ9
   clear HS9 HB9 HX9 HR9 HQ9
   replace HS := aH (show MS (Z4.setCell ⟨g, 5, none⟩ (.slice A5 l5 c5)) w0.heap.size g rs2 (isO (aG n) (aC n) ((cF n).take (k + 1)) ((toL n).take (k + 1)) []) (eK qs1 1 (.slice A5 l5 c5)) (tsO ((bLQ n).take (k + 1)) ((cLQ n).take (k + 1))) (.slice none 0 0) by
    have h := HS.out
    rw [aQr] at h
    rw [HX4.out]
    exact h)
   generalize (Z4.setCell ⟨g, 5, none⟩ (.slice A5 l5 c5)) = V4 at *
   generalize eK qs1 1 (.slice A5 l5 c5) = qs2 at *
   clear HX HR HQ HQN HF1 HF2 HX1 HX2 HX3 HX4 HRS HRD HBL
   go_wp2
   go_roundg (n.branches.length - (k + 1))
   case measure => omega
   case rel => exact ⟨k + 1, _, _, rfl, by go_num, by omega, HIS, HS, HB⟩
  ·have hkb : k = n.branches.length := by omega
   subst hkb
   replace HS := aH (show MS wa w0.heap.size g rs (isO (aG n) (aC n) (cF n) (toL n) (eY (aC n) 0)) qs (tsO (bLQ n) (cLQ n)) (.slice none 0 0) by
    have h := HS.out
    rw [List.take_of_length_le (by simp [cF]), List.take_of_length_le (by simp [toL]), List.take_of_length_le (by simp [bLQ]), List.take_of_length_le (by simp [cLQ])] at h
    exact h)
   have hmm := @run_makeMap Tryz.prog
   go_upto_region 12 with (fail)
   have hz := aD wa (.map #[] 0)
   have HM := aH (show SeenI (wa.alloc (.map #[] 0)) wa.heap.size ((aC n).take 0) from SeenI.made wa)
   have hbm : w0.heap.size ≤ wa.heap.size := HB.out.size
   replace HS := aH (HS.out.call hz)
   replace HB := bT HB hz
   clear hz hmm
   generalize wa.alloc (.map #[] 0) = W0 at *
   generalize wa.heap.size = bm at *
   have x1 : W0.cell? ⟨g, 1, none⟩ = some (.slice iA (aC n).length ic) := by rw [← HIS.out]; exact HS.out.cellI (j := 1) (by decide)
   go_wp2
   clear x1
   go_loopg [102] ((aC n).length - 0) (fun r v wr => ∃ k : Nat, ∃ rs : Nat → Value, r = (aC n).length - k ∧ v = I k ∧ k ≤ (aC n).length ∧ Hid (rs 1 = .slice iA (aC n).length ic) ∧ Hid (MS wr w0.heap.size g rs (isO (aG n) (aC n) (cF n) (toL n) (eY (aC n) k)) qs (tsO (bLQ n) (cLQ n)) (.slice none 0 0)) ∧ Hid (SeenI wr bm ((aC n).take k)) ∧ Hid (Below w0.heap.size w0 wr))
   case atStart => exact ⟨0, _, rfl, rfl, by omega, HIS, HS, HM, HB⟩
   case round =>
    clear HIS HS HM HB
    obtain ⟨k, rs, rfl, rfl, hk, HIS, HS, HM, HB⟩ := hrel
    obtain ⟨wa, rfl⟩ := wE wr
    by_cases hlt : k < (aC n).length
    ·obtain ⟨b1, o1, k1, e1, hb1, hc1⟩ := HS.out.intAt (j := 1) (by decide) (k := k) hlt
     change rs 1 = .slice (some ⟨b1, o1, none⟩) (aC n).length k1 at e1
     have q1 := HIS.out.symm.trans e1
     replace q1 := slI q1
     obtain ⟨q1, q2⟩ := q1
     subst q1 q2
     clear e1
     change _ = some (I ((aC n).getD k 0)) at hc1
     have hxr := tP HV.out _ (bY hlt)
     generalize hx : (aC n).getD k 0 = x at *
     have hct : (aC n).take (k + 1) = (aC n).take k ++ [x] := by
      rw [List.take_add_one, gE hlt]
      rw [gD, gE hlt] at hx
      rw [← hx]; rfl
     have HCT := aH hct
     clear hct
     have hll : ((aC n).take k).length < 1000000 := by rw [List.length_take]; omega
     have hlk := HM.out.lookup x (by omega) (by omega)
     cases hc : ((aC n).take k).contains x with
     | false =>
      rw [hc] at hlk
      have HFK := aH (rA hx hc)
      clear hc hx
      replace HS := aH (show MS wa w0.heap.size g rs (isO (aG n) (aC n) (cF n) (toL n) (eY (aC n) (k + 1))) qs (tsO (bLQ n) (cLQ n)) (.slice none 0 0) by
       rw [HFK.out, if_neg (by decide), List.append_nil]
       exact HS.out)
      go_upto_region 17 with (fail)
      clear hlk hc1
      obtain ⟨W9, hrun, hm2, hg2⟩ := HM.out.update x (by omega) (by omega) hll
      have HM2 := aH (show SeenI W9 bm ((aC n).take (k + 1)) by rw [HCT.out]; exact hm2)
      have HS2 := aH (HS.out.map HM.out hg2)
      have HB2 := aH (HB.out.grown hg2 HB.out.size (fun k e => by cases e; exact hbm))
      clear HM HS HB hm2 hg2
      go_wp2
      go_roundg ((aC n).length - (k + 1))
      case measure => omega
      case rel => exact ⟨k + 1, _, rfl, by go_num, by omega, HIS, HS2, HM2, HB2⟩
     | true =>
      rw [hc] at hlk
      have HFK := aH (rA hx hc)
      clear hc hx
      have x6 : wa.cell? ⟨g, 6, none⟩ = some (rs 4) := HS.out.cellI (j := 4) (by decide)
      have hb := aD wa (Obj.cells #[I (k : Int)] 3)
      have HY := aH (lC wa 3 (I (k : Int)))
      have HS1 := aH (HS.out.call hb)
      have HM1 := aH (HM.out.below hb)
      have HB1 := aH (HB.out.trans (hb.mono HB.out.size))
      clear hb
      have HFL := aH (iQ (aC n) k)
      go_wp2_with (at_builtin; refine pE rfl _ _ pX rfl w0.heap.size (rs 4) ((eY (aC n) k).map I) rfl (HS1.out.nrow (j := 4) (by decide) (by decide)) (some ⟨wa.heap.size, 0, none⟩) 1 1 rfl [I (k : Int)] HY.out (fun u hu => by rw [List.mem_singleton.1 hu]; exact ⟨(fun m e => by cases e), rfl⟩) (by rw [List.length_map]; have := HFL.out; omega) HB1.out.size ?_)
      intro v' Z hap
      obtain ⟨A5, l5, c5, rfl⟩ := dO hap.row.val
      generalize wa.alloc (Obj.cells #[I (k : Int)] 3) = W1 at *
      have hap2 : NApd W1 w0.heap.size 3 (rs 4) ((eY (aC n) k ++ [(k : Int)]).map I) (.slice A5 l5 c5) Z := by rw [List.map_append]; exact hap
      obtain ⟨hs, _, hkp⟩ := HS1.out.appI (j := 4) (by decide) (by decide) hap2
      have hgl := HS1.out.blk.lt
      have hZ : Blk Z g mZ _ := (eT hap.grown hgl (HS1.out.noG (j := 4) (by decide))).trans HS1.out.blk
      have z0 : Z.cell? ⟨g, 6, none⟩ = some (rs 4) := by rw [hZ.cell]; rfl
      have y0 := hZ.frozen 6
      have hmo : (rs 4).ownBlock ≠ some bm := fun e => by
       obtain ⟨_, _, cur, h3⟩ := own_lt (HS1.out.ri 4 (by decide)) e
       exact HM1.out.ne h3 rfl
      have hml : bm < W1.heap.size := by
       obtain ⟨D, h1, _⟩ := HM1.out
       exact h1.lt
      have hmg : bm ≠ g := fun e => HM1.out.ne HS1.out.blk e.symm
      have HM9 := aH (show SeenI (Z.setCell ⟨g, 6, none⟩ (.slice A5 l5 c5)) bm ((aC n).take k) from HM1.out.keep (hkp bm hml hmg hmo))
      have HB9 := aH ((HB1.out.trans (hap.below (HS1.out.nrow (j := 4) (by decide) (by decide)) HB1.out.size)).setCell (p := ⟨g, 6, none⟩) hgb (.slice A5 l5 c5))
      have HS9 := aH (show MS (Z.setCell ⟨g, 6, none⟩ (.slice A5 l5 c5)) w0.heap.size g (eK rs 4 (.slice A5 l5 c5)) (isO (aG n) (aC n) (cF n) (toL n) (eY (aC n) (k + 1))) qs (tsO (bLQ n) (cLQ n)) (.slice none 0 0) by
       have h := hs
       rw [aQp] at h
       rw [HFK.out, if_pos trivial]
       exact h)
      replace HIS := aH (show eK rs 4 (.slice A5 l5 c5) 1 = _ from (dI _ _ (by decide)).trans HIS.out)
      clear hs hkp hap hap2 hgl hZ hmo hml hmg HS HM HB HS1 HM1 HB1 HY hlk hc1 x6
      go_upto_region 17 with (fail)
      clear z0 y0
      generalize (Z.setCell ⟨g, 6, none⟩ (.slice A5 l5 c5)) = W2 at *
      generalize eK rs 4 (.slice A5 l5 c5) = rs9 at *
      have HS := HS9
      have HM := HM9
      have HB := HB9
      clear HS9 HM9 HB9
      obtain ⟨W9, hrun, hm2, hg2⟩ := HM.out.update x (by omega) (by omega) hll
      have HM2 := aH (show SeenI W9 bm ((aC n).take (k + 1)) by rw [HCT.out]; exact hm2)
      have HS2 := aH (HS.out.map HM.out hg2)
      have HB2 := aH (HB.out.grown hg2 HB.out.size (fun k e => by cases e; exact hbm))
      clear HM HS HB hm2 hg2
      go_wp2
      go_roundg ((aC n).length - (k + 1))
      case measure => omega
      case rel => exact ⟨k + 1, _, rfl, by go_num, by omega, HIS, HS2, HM2, HB2⟩
    ·have hkb : k = (aC n).length := by omega
     subst hkb
     have hfl := iQ (aC n) (aC n).length
     have HC := aH (zC w0.heap.size g rs (aG n) (aC n) (cF n) (toL n) (bE n) (bLQ n) (cLQ n) qs wa HS.out HB.out.size (bE n).length n.branches.length rfl (by unfold bE; omega) (by simp [bLQ]) hbl (by simp [cF]) (by simp [toL]) (aBe HV.out) (zD HV.out) (zE HV.out))
     have HBE := aH HB.out
     have hz0 := HBW.out.size
     clear HIS HS HM HB
     go_wp2_with fail
     refine HC.out.mono ?_
     rintro e W8 ⟨rfl, v8, vs8, hS8, hL8, hB8⟩
     have HEND := aH (show aNk w n (.returned (.pointer (some ⟨g, 0, none⟩))) W8 from ⟨w0.heap.size, g, rfl, hz0, ⟨_, _, _, _, hS8, hL8⟩, by rw [hgn]; exact HBW.out.trans ((HBE.out.trans hB8).mono (by rw [← hgn]; exact hz0))⟩)
     clear hS8 hL8 hB8 HC
     go_wp2
     go_ret
     exact HEND.out
end Go.Proofs.YtenbglfkdldheaaGreatDoor
