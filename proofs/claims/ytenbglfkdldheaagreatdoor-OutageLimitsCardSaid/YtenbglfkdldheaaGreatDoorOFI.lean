/- flow: Grow. Power flows: what the walks ask of a network's model. -/
import Derived.Test.YtenbglfkdldheaaGreatDoorOFH
set_option maxRecDepth 100000
namespace Go.Proofs.YtenbglfkdldheaaGreatDoor
open Go.RowKit
theorem aDg (nb : Nat) : FitL 1 (List.replicate nb 0) := fun i => by
 rw [gD, List.getElem?_replicate]
 split <;> exact fC
def nfN (n : NetD) : Nat := (bE n).length
def nbN (n : NetD) : Nat := (aC n).length
def pP (n : NetD) : MQ := yE (fwM n) (nfN n)
theorem aNn {n : NetD} (h : VNet n) : nfN n ≤ 24 := by
 have hf := iQ (aC n) (aC n).length
 have hl := oI h
 unfold nfN bE
 omega
theorem wT (n : NetD) : Rect (pP n) (nfN n) (nfN n) := aJh (nB n)
theorem aKz {n : NetD} : ∀ x ∈ bE n, 0 ≤ x ∧ x < nbN n := fun x hx => by
 obtain ⟨j, h1, h2, _⟩ := iR.1 hx
 unfold nbN
 omega
theorem aGn {N : Nat} {free : List Int} {r : List Rat} (h : FitL N r) (h1 : 1 ≤ N) (i : Nat) : FitR N ((dS free r).getD i 0) := by
 unfold dS
 rw [gD, List.getElem?_map]
 cases free[i]? with
 | none => exact fC.mono h1
 | some f => exact h _
theorem aGo {n : NetD} (h : VNet n) {r : List Rat} (hr : FitL 4000 r) {k : Nat} (hk : k < nfN n) : DotFit 200000 ((pP n).getD k []) (dS (bE n) r) := by
 have hl : ((pP n).getD k []).length = nfN n := (wT n).rowlen hk
 have hn := aNn h
 have ha : ∀ i, FitR 4000 (((pP n).getD k []).getD i 0) := fun i => aGh h k i hk
 have hb : ∀ i, FitR 4000 ((dS (bE n) r).getD i 0) := aGn hr (by omega)
 refine ⟨fun i _ => (ha i).mono (by omega), fun i _ => (hb i).mono (by omega), fun j hj => ?_⟩
 have h1 : FitR (j * (8000 + 1) + 1) (sm j (jQ ((pP n).getD k []) (dS (bE n) r))) := yL (N := 8000) j fun i _ => (show FitR 8000 (jQ ((pP n).getD k []) (dS (bE n) r) i) from (iZ (ha i) (hb i)).mono (by omega))
 have h2 : j ≤ 24 := by omega
 exact h1.mono (by omega)
theorem aGp {n : NetD} (h : VNet n) {r : List Rat} (hr : FitL 4000 r) : ∀ k, k ≤ nfN n → FitL 200000 (thK (nbN n) (bE n) (pP n) (dS (bE n) r) k)
 | 0, _ => (aDg _).mono (by omega)
 | k + 1, hk => (aGp h hr k (by omega)).set _ ((aGo h hr (show k < nfN n by omega)).sum _ lR)
theorem aBk {n : NetD} (h : VNet n) {r : List Rat} (hr : FitL 4000 r) : FitL 200000 (thQ (nbN n) (bE n) (pP n) r) := aGp h hr _ lR
theorem wU {l : List Rat} {N : Nat} (h : ∀ x ∈ l, FitR N x) (h1 : 1 ≤ N) : FitL N l := fun i => by
 rw [gD]
 cases e : l[i]? with
 | none => exact fC.mono h1
 | some x => exact h x (List.mem_of_getElem? e)
theorem qA {n : NetD} (h : VNet n) : FitL 2 (cLQ n) := wU (fun x hx => by
 obtain ⟨b, hb, rfl⟩ := List.mem_map.1 hx
 have h1 := iZ (vA (h.br b hb).2.2.2) (aFz (h.br b hb).2.2.2)
 exact (show FitR (1 + 1) (cQ b) by rw [cQ]; exact h1).mono (by omega)) (by omega)
theorem wV {n : NetD} (h : VNet n) : FitL 2 (bLQ n) := aBe h
theorem aGq {n : NetD} (h : VNet n) : ∀ x ∈ cF n, 0 ≤ x ∧ x < nbN n := fun x hx => by
 obtain ⟨b, hb, rfl⟩ := List.mem_map.1 hx
 have := iP h (h.br b hb).1
 unfold nbN
 omega
theorem aGr {n : NetD} (h : VNet n) : ∀ x ∈ toL n, 0 ≤ x ∧ x < nbN n := fun x hx => by
 obtain ⟨b, hb, rfl⟩ := List.mem_map.1 hx
 have := iP h (h.br b hb).2.1
 unfold nbN
 omega
def shN (n : NetD) (r : List Rat) : List Rat := shK (cF n) (toL n) (cLQ n) r n.branches.length
def aGs (n : NetD) (r : List Rat) : List Rat := thQ (nbN n) (bE n) (pP n) (shN n r)
def flN (n : NetD) (th : List Rat) : List Rat := flK (cF n) (toL n) (bLQ n) (cLQ n) th n.branches.length
theorem zI {n : NetD} (h : VNet n) {r : List Rat} (hr : FitL 1000 r) : FitL 4000 (shN n r) := (vE (qA h) hr _).mono (by have := h.hb; omega)
theorem aDh {n : NetD} (h : VNet n) {base g : Nat} {w : World} (hm : MF w base g n) {r : List Rat} {A : Option Addr} {c : Nat} (hr : RV w A (nbN n) r) (hf : FitL 1000 r) :
  Calls Tryz.prog 89 #[.pointer (some ⟨g, 0, none⟩), .slice A (nbN n) c] w (nM w (aGs n r)) := by
 obtain ⟨rs, qs, v, vs, hS, hL⟩ := hm
 change LM w base v vs (sH (fwM n) (bE n).length).1 at hL
 rw [aOd h] at hL
 have hl := oI h
 have hn := aNn h
 have hb := h.hb
 exact zH base g rs _ qs _ v (pP n) vs r A c (nbN n) (nfN n) n.branches.length w hS hL hr rfl (by unfold nbN; omega) rfl (by omega) (wT n) aKz (N := 200000) (by decide) (by simp [isO, cF]) (by simp [isO, toL]) (by simp [tsO, cLQ]) (by omega) (aGq h) (aGr h) (qA h) hf (fun k hk => aGo h (zI h hf) hk)
theorem aGt {n : NetD} (h : VNet n) {base g : Nat} {w : World} (hm : MF w base g n) {th : List Rat} {A : Option Addr} {c : Nat} (hr : RV w A (nbN n) th) (hf : FitL 200000 th) :
  Calls Tryz.prog 91 #[.pointer (some ⟨g, 0, none⟩), .slice A (nbN n) c] w (nM w (flN n th)) := by
 obtain ⟨rs, qs, v, vs, hS, hL⟩ := hm
 have hb := h.hb
 exact aDe base g rs _ qs _ v th A c (nbN n) n.branches.length w hS hr (by simp [isO, cF]) (by simp [isO, toL]) (by simp [tsO, bLQ]) (by simp [tsO, cLQ]) (by omega) (aGq h) (aGr h) (wV h) (qA h) (N := 200000) (by decide) hf
theorem zJ {n : NetD} (h : VNet n) : ∀ x ∈ aG n, 0 ≤ x ∧ x < nbN n := fun x hx => by
 obtain ⟨i, hi, e⟩ := List.getElem_of_mem hx
 rw [cZ h] at hi
 have := vK h hi
 unfold at_ at this
 rw [Int.toNat_natCast, gD, gE (by rw [cZ h]; exact hi), Option.getD_some, e] at this
 unfold nbN
 omega
def smN (n : NetD) (inj : List Int) : List Rat := smQ (aG n) inj (nbN n) n.nodes.length
theorem aBl {n : NetD} (h : VNet n) {inj : List Int} (hi : ∀ i, -100000 ≤ inj.getD i 0 ∧ inj.getD i 0 ≤ 100000) : FitL 1000 (smN n inj) := fun i => by
 have hn := h.hn
 unfold smN smQ
 rw [gD, List.getElem?_map]
 cases e : (smI (aG n) inj (nbN n) n.nodes.length)[i]? with
 | none => exact fC.mono (by omega)
 | some z =>
  have hb := iT (bus := aG n) (nb := nbN n) hi n.nodes.length i
  rw [gD, e] at hb
  simp only [Option.getD_some] at hb
  exact aBd (by omega) (by omega) (by omega)
theorem aLa {n : NetD} (h : VNet n) {base g : Nat} {w : World} (hm : MF w base g n) {inj : List Int} {A : Option Addr} {c : Nat} (hr : Reads w w.heap.size 1 A n.nodes.length (inj.map I)) (hi : ∀ i, -100000 ≤ inj.getD i 0 ∧ inj.getD i 0 ≤ 100000) :
  Calls Tryz.prog 90 #[.pointer (some ⟨g, 0, none⟩), .slice A n.nodes.length c] w (nM w (smN n inj)) := by
 obtain ⟨rs, qs, v, vs, hS, hL⟩ := hm
 have hn := h.hn
 have hl := oI h
 exact aGm base g rs _ qs _ v inj A c (nbN n) n.nodes.length w hS hr (cZ h) rfl (by unfold nbN; omega) (by omega) (zJ h) hi
theorem gG {n : NetD} {base g : Nat} {w w' : World} (hm : MF w base g n) (hb : Below w.heap.size w w') : MF w' base g n := by
 obtain ⟨rs, qs, v, vs, hS, hL⟩ := hm
 exact ⟨rs, qs, v, vs, hS.call hb, hL.call hb⟩
end Go.Proofs.YtenbglfkdldheaaGreatDoor
