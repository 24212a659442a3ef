/- Power flows: what the walks ask of a network's model. -/
import Derived.Test.YtenbglfkdldheaaGreatDoorZFI
set_option maxRecDepth 100000
namespace Go.Proofs.YtenbglfkdldheaaGreatDoor
open Go.RowKit
def nfN (n : NetD) : Nat := (freeL n).length
def nbN (n : NetD) : Nat := (islandsL n).length
def invN (n : NetD) : MQ := invQ (fwM n) (nfN n)
theorem nf_le {n : NetD} (h : VNet n) : nfN n ≤ 24 := by
 have hf := freeK_len (islandsL n) (islandsL n).length
 have hl := isl_le h
 unfold nfN freeL
 omega
theorem inv_rect (n : NetD) : Rect (invN n) (nfN n) (nfN n) := rect_inv (fw_rect n)
theorem free_rg {n : NetD} : ∀ x ∈ freeL n, 0 ≤ x ∧ x < nbN n := fun x hx => by
 obtain ⟨j, h1, h2, _⟩ := freeK_mem.1 hx
 unfold nbN
 omega
theorem pick_fit {N : Nat} {free : List Int} {r : List Rat} (h : FitL N r) (h1 : 1 ≤ N) (i : Nat) : FitR N ((pickQ free r).getD i 0) := by
 unfold pickQ
 rw [gD, List.getElem?_map]
 cases free[i]? with
 | none => exact fitR_zero.mono h1
 | some f => exact h _
theorem dot_fw {n : NetD} (h : VNet n) {r : List Rat} (hr : FitL 4000 r) {k : Nat} (hk : k < nfN n) : DotFit 200000 ((invN n).getD k []) (pickQ (freeL n) r) := by
 have hl : ((invN n).getD k []).length = nfN n := (inv_rect n).rowlen hk
 have hn := nf_le h
 have ha : ∀ i, FitR 4000 (((invN n).getD k []).getD i 0) := fun i => fw_small h k i hk
 have hb : ∀ i, FitR 4000 ((pickQ (freeL n) r).getD i 0) := pick_fit hr (by omega)
 refine ⟨fun i _ => (ha i).mono (by omega), fun i _ => (hb i).mono (by omega), fun j hj => ?_⟩
 have h1 : FitR (j * (8000 + 1) + 1) (sm j (dotF ((invN n).getD k []) (pickQ (freeL n) r))) := fitR_sum (N := 8000) j fun i _ => (show FitR 8000 (dotF ((invN n).getD k []) (pickQ (freeL n) r) i) from (fitR_mul (ha i) (hb i)).mono (by omega))
 have h2 : j ≤ 24 := by omega
 exact h1.mono (by omega)
theorem th_fit {n : NetD} (h : VNet n) {r : List Rat} (hr : FitL 4000 r) : ∀ k, k ≤ nfN n → FitL 200000 (thK (nbN n) (freeL n) (invN n) (pickQ (freeL n) r) k)
 | 0, _ => (fitL_zero _).mono (by omega)
 | k + 1, hk => (th_fit h hr k (by omega)).set _ ((dot_fw h hr (show k < nfN n by omega)).sum _ lR)
theorem thQ_fit {n : NetD} (h : VNet n) {r : List Rat} (hr : FitL 4000 r) : FitL 200000 (thQ (nbN n) (freeL n) (invN n) r) := th_fit h hr _ lR
theorem fitL_map {l : List Rat} {N : Nat} (h : ∀ x ∈ l, FitR N x) (h1 : 1 ≤ N) : FitL N l := fun i => by
 rw [gD]
 cases e : l[i]? with
 | none => exact fitR_zero.mono h1
 | some x => exact h x (List.mem_of_getElem? e)
theorem cLQ_fit {n : NetD} (h : VNet n) : FitL 2 (cLQ n) := fitL_map (fun x hx => by
 obtain ⟨b, hb, rfl⟩ := List.mem_map.1 hx
 have h1 := fitR_mul (bQ_fit (h.br b hb).2.2.2) (sQ_fit (h.br b hb).2.2.2)
 exact (show FitR (1 + 1) (cQ b) by rw [cQ]; exact h1).mono (by omega)) (by omega)
theorem bLQ_fitL {n : NetD} (h : VNet n) : FitL 2 (bLQ n) := bLQ_fit h
theorem frm_nb {n : NetD} (h : VNet n) : ∀ x ∈ frmL n, 0 ≤ x ∧ x < nbN n := fun x hx => by
 obtain ⟨b, hb, rfl⟩ := List.mem_map.1 hx
 have := busAt_rg h (h.br b hb).1
 unfold nbN
 omega
theorem toL_nb {n : NetD} (h : VNet n) : ∀ x ∈ toL n, 0 ≤ x ∧ x < nbN n := fun x hx => by
 obtain ⟨b, hb, rfl⟩ := List.mem_map.1 hx
 have := busAt_rg h (h.br b hb).2.1
 unfold nbN
 omega
def shN (n : NetD) (r : List Rat) : List Rat := shK (frmL n) (toL n) (cLQ n) r n.branches.length
def angN (n : NetD) (r : List Rat) : List Rat := thQ (nbN n) (freeL n) (invN n) (shN n r)
def flN (n : NetD) (th : List Rat) : List Rat := flK (frmL n) (toL n) (bLQ n) (cLQ n) th n.branches.length
theorem sh_fit {n : NetD} (h : VNet n) {r : List Rat} (hr : FitL 1000 r) : FitL 4000 (shN n r) := (shK_fit (cLQ_fit h) hr _).mono (by have := h.hb; omega)
theorem mf_angles {n : NetD} (h : VNet n) {base g : Nat} {w : World} (hm : MF w base g n) {r : List Rat} {A : Option Addr} {c : Nat} (hr : RV w A (nbN n) r) (hf : FitL 1000 r) :
  Calls Tryz.prog 89 #[.pointer (some ⟨g, 0, none⟩), .slice A (nbN n) c] w (RetV w (angN n r)) := by
 obtain ⟨rs, qs, v, vs, hS, hL⟩ := hm
 change LM w base v vs (invR (fwM n) (freeL n).length).1 at hL
 rw [fw_inv h] at hL
 have hl := isl_le h
 have hn := nf_le h
 have hb := h.hb
 exact angles_any base g rs _ qs _ v (invN n) vs r A c (nbN n) (nfN n) n.branches.length w hS hL hr rfl (by unfold nbN; omega) rfl (by omega) (inv_rect n) free_rg (N := 200000) (by decide) (by simp [isO, frmL]) (by simp [isO, toL]) (by simp [tsO, cLQ]) (by omega) (frm_nb h) (toL_nb h) (cLQ_fit h) hf (fun k hk => dot_fw h (sh_fit h hf) hk)
theorem mf_flows {n : NetD} (h : VNet n) {base g : Nat} {w : World} (hm : MF w base g n) {th : List Rat} {A : Option Addr} {c : Nat} (hr : RV w A (nbN n) th) (hf : FitL 200000 th) :
  Calls Tryz.prog 91 #[.pointer (some ⟨g, 0, none⟩), .slice A (nbN n) c] w (RetV w (flN n th)) := by
 obtain ⟨rs, qs, v, vs, hS, hL⟩ := hm
 have hb := h.hb
 exact flows_any base g rs _ qs _ v th A c (nbN n) n.branches.length w hS hr (by simp [isO, frmL]) (by simp [isO, toL]) (by simp [tsO, bLQ]) (by simp [tsO, cLQ]) (by omega) (frm_nb h) (toL_nb h) (bLQ_fitL h) (cLQ_fit h) (N := 200000) (by decide) hf
theorem bus_nb {n : NetD} (h : VNet n) : ∀ x ∈ busesL n, 0 ≤ x ∧ x < nbN n := fun x hx => by
 obtain ⟨i, hi, e⟩ := List.getElem_of_mem hx
 rw [buses_len h] at hi
 have := bus_rg h hi
 unfold at_ at this
 rw [Int.toNat_natCast, gD, gE (by rw [buses_len h]; exact hi), Option.getD_some, e] at this
 unfold nbN
 omega
def smN (n : NetD) (inj : List Int) : List Rat := smQ (busesL n) inj (nbN n) n.nodes.length
theorem sm_fitN {n : NetD} (h : VNet n) {inj : List Int} (hi : ∀ i, -100000 ≤ inj.getD i 0 ∧ inj.getD i 0 ≤ 100000) : FitL 1000 (smN n inj) := fun i => by
 have hn := h.hn
 unfold smN smQ
 rw [gD, List.getElem?_map]
 cases e : (smI (busesL n) inj (nbN n) n.nodes.length)[i]? with
 | none => exact fitR_zero.mono (by omega)
 | some z =>
  have hb := smI_bound (bus := busesL n) (nb := nbN n) hi n.nodes.length i
  rw [gD, e] at hb
  simp only [Option.getD_some] at hb
  exact fit_int (by omega) (by omega) (by omega)
theorem mf_sums {n : NetD} (h : VNet n) {base g : Nat} {w : World} (hm : MF w base g n) {inj : List Int} {A : Option Addr} {c : Nat} (hr : Reads w w.heap.size 1 A n.nodes.length (inj.map I)) (hi : ∀ i, -100000 ≤ inj.getD i 0 ∧ inj.getD i 0 ≤ 100000) :
  Calls Tryz.prog 90 #[.pointer (some ⟨g, 0, none⟩), .slice A n.nodes.length c] w (RetV w (smN n inj)) := by
 obtain ⟨rs, qs, v, vs, hS, hL⟩ := hm
 have hn := h.hn
 have hl := isl_le h
 exact sums_any base g rs _ qs _ v inj A c (nbN n) n.nodes.length w hS hr (buses_len h) rfl (by unfold nbN; omega) (by omega) (bus_nb h) hi
theorem mf_ext {n : NetD} {base g : Nat} {w w' : World} (hm : MF w base g n) (hb : Below w.heap.size w w') : MF w' base g n := by
 obtain ⟨rs, qs, v, vs, hS, hL⟩ := hm
 exact ⟨rs, qs, v, vs, hS.call hb, hL.call hb⟩
end Go.Proofs.YtenbglfkdldheaaGreatDoor
