/- The network of the facts: gridhallkeep1.pair. slices.Equal at strings. gridhallkeep1.pick. ratingFact: the fixed examples of package rating. rating.Step in one form; what the laws of rating need of states: plain facts. -/
import Derived.Test.YtfigffaghaaaoaaGreatDoorRNC
import Derived.Test.YtfigffaghaaaoaaGreatDoorRG
import Derived.Test.YtfigffaghaaaoaaGreatDoorRNA
import Derived.Test.YtfigffaghaaaoaaGreatDoorRA
import Derived.Test.YtfigffaghaaaoaaGreatDoorRX3
import Derived.Test.YtfigffaghaaaoaaGreatDoorRX4
import Derived.Test.YtfigffaghaaaoaaGreatDoorRP
namespace Go.Proofs.YtfigffaghaaaoaaGreatDoor
open Go.RowKit

def bA : ByteArray := ⟨#[65]⟩
def pairN (o : Bool) : NetD where
  nodes := [⟨#[65]⟩, ⟨#[66]⟩, ⟨#[67]⟩]
  switches := [⟨⟨#[83]⟩, ⟨#[65]⟩, ⟨#[66]⟩, false, o⟩]
  branches := [⟨⟨#[76, 49]⟩, ⟨#[65]⟩, ⟨#[67]⟩, 1000, 1000, 0, 10, 20, 60⟩, ⟨⟨#[76, 50]⟩, ⟨#[65]⟩, ⟨#[67]⟩, 1000, 1000, 0, 10, 20, 60⟩]
  gens := [⟨⟨#[71]⟩, ⟨#[66]⟩, 1, 30, 5⟩]
  loads := [⟨⟨#[68]⟩, ⟨#[67]⟩, 8⟩]
  stores := []

theorem reads_blk {w : World} {g n sz : Nat} {t : TypeId} {cs : Array Value} (h : Blk w g t cs) (hl : cs.size = n * sz) : Reads w w.heap.size sz (some ⟨g, 0, none⟩) n cs.toList := by
  refine ⟨by simpa using hl, fun _ => ⟨g, 0, rfl, h.lt, fun j u hu => ?_⟩⟩
  rw [h.cell, Nat.zero_add]
  simpa using hu
theorem row_blk {w : World} {g n sz base : Nat} {t : TypeId} {cs : Array Value} (h : Blk w g t cs) (hb : base ≤ g) (hl : cs.size = n * sz) (hm : n ≤ 1000000) : Row w base t sz (.slice (some ⟨g, 0, none⟩) n n) n cs.toList := by
  refine ⟨by simpa using hl, .inr ⟨g, 0, n, cs, rfl, hb, h, Nat.le_refl _, by unfold maxLen; omega, by omega, ?_⟩⟩
  rw [List.drop_zero, List.take_of_length_le (by simp [hl])]
/-- eight new blocks, the last five by name -/
structure Chain8 (w : World) (o4 o5 o6 o7 o8 : Obj) (W : World) : Prop where
  a4 : W.heap[w.heap.size + 1 + 1 + 1]? = some o4
  a5 : W.heap[w.heap.size + 1 + 1 + 1 + 1]? = some o5
  a6 : W.heap[w.heap.size + 1 + 1 + 1 + 1 + 1]? = some o6
  a7 : W.heap[w.heap.size + 1 + 1 + 1 + 1 + 1 + 1]? = some o7
  a8 : W.heap[w.heap.size + 1 + 1 + 1 + 1 + 1 + 1 + 1]? = some o8
  below : Below w.heap.size w W
theorem chain8 (w : World) (o1 o2 o3 o4 o5 o6 o7 o8 : Obj) : Chain8 w o4 o5 o6 o7 o8 ((((((((w.alloc o1).alloc o2).alloc o3).alloc o4).alloc o5).alloc o6).alloc o7).alloc o8) := by
  refine ⟨?_, ?_, ?_, ?_, ?_, ?_⟩
  · have := heap_alloc_new (((w.alloc o1).alloc o2).alloc o3) o4
    simp only [World.size_alloc] at this
    rw [Below.heap_alloc _ _ _ (by simp only [World.size_alloc]; omega), Below.heap_alloc _ _ _ (by simp only [World.size_alloc]; omega), Below.heap_alloc _ _ _ (by simp only [World.size_alloc]; omega), Below.heap_alloc _ _ _ (by simp only [World.size_alloc]; omega)]
    exact this
  · have := heap_alloc_new ((((w.alloc o1).alloc o2).alloc o3).alloc o4) o5
    simp only [World.size_alloc] at this
    rw [Below.heap_alloc _ _ _ (by simp only [World.size_alloc]; omega), Below.heap_alloc _ _ _ (by simp only [World.size_alloc]; omega), Below.heap_alloc _ _ _ (by simp only [World.size_alloc]; omega)]
    exact this
  · have := heap_alloc_new (((((w.alloc o1).alloc o2).alloc o3).alloc o4).alloc o5) o6
    simp only [World.size_alloc] at this
    rw [Below.heap_alloc _ _ _ (by simp only [World.size_alloc]; omega), Below.heap_alloc _ _ _ (by simp only [World.size_alloc]; omega)]
    exact this
  · have := heap_alloc_new ((((((w.alloc o1).alloc o2).alloc o3).alloc o4).alloc o5).alloc o6) o7
    simp only [World.size_alloc] at this
    rw [Below.heap_alloc _ _ _ (by simp only [World.size_alloc]; omega)]
    exact this
  · have := heap_alloc_new (((((((w.alloc o1).alloc o2).alloc o3).alloc o4).alloc o5).alloc o6).alloc o7) o8
    simp only [World.size_alloc] at this
    exact this
  · have h := Below.refl w.heap.size w
    exact (((((((h.alloc (Nat.le_refl _) o1).alloc (by simp only [World.size_alloc]; omega) o2).alloc (by simp only [World.size_alloc]; omega) o3).alloc (by simp only [World.size_alloc]; omega) o4).alloc (by simp only [World.size_alloc]; omega) o5).alloc (by simp only [World.size_alloc]; omega) o6).alloc (by simp only [World.size_alloc]; omega) o7).alloc (by simp only [World.size_alloc]; omega) o8

theorem pair_fin {w W : World} (h : Chain8 w (.cells #[.string ⟨#[65]⟩, .string ⟨#[66]⟩, .string ⟨#[67]⟩] 9) (.cells #[.string ⟨#[83]⟩, .string ⟨#[65]⟩, .string ⟨#[66]⟩, .bool false, .bool false] 86)
      (.cells #[.string ⟨#[76, 49]⟩, .string ⟨#[65]⟩, .string ⟨#[67]⟩, I 1000, I 1000, I 0, I 10, I 20, I 60, .string ⟨#[76, 50]⟩, .string ⟨#[65]⟩, .string ⟨#[67]⟩, I 1000, I 1000, I 0, I 10, I 20, I 60] 68)
      (.cells #[.string ⟨#[71]⟩, .string ⟨#[66]⟩, I 1, I 30, I 5] 88) (.cells #[.string ⟨#[68]⟩, .string ⟨#[67]⟩, I 8] 90) W) :
    CopyOf w (pairN false) (.returned (.agg #[Value.slice (some { block := w.heap.size + 1 + 1 + 1, off := 0 }) 3 3, Value.slice (some { block := w.heap.size + 1 + 1 + 1 + 1, off := 0 }) 1 1, Value.slice (some { block := w.heap.size + 1 + 1 + 1 + 1 + 1, off := 0 }) 2 2,
      Value.slice (some { block := w.heap.size + 1 + 1 + 1 + 1 + 1 + 1, off := 0 }) 1 1, Value.slice (some { block := w.heap.size + 1 + 1 + 1 + 1 + 1 + 1 + 1, off := 0 }) 1 1, Value.slice none 0 0])) W :=
  ⟨⟨some ⟨w.heap.size + 1 + 1 + 1, 0, none⟩, 3, some ⟨w.heap.size + 1 + 1 + 1 + 1, 0, none⟩, 1, some ⟨w.heap.size + 1 + 1 + 1 + 1 + 1, 0, none⟩, 2, some ⟨w.heap.size + 1 + 1 + 1 + 1 + 1 + 1, 0, none⟩, 1, some ⟨w.heap.size + 1 + 1 + 1 + 1 + 1 + 1 + 1, 0, none⟩, 1, none, 0⟩, rfl,
    ⟨reads_blk (n := 3) (sz := 1) h.a4 rfl, reads_blk (n := 1) (sz := 5) h.a5 rfl, reads_blk (n := 2) (sz := 9) h.a6 rfl, reads_blk (n := 1) (sz := 5) h.a7 rfl, reads_blk (n := 1) (sz := 3) h.a8 rfl, Reads.nil⟩,
    fun _ => row_blk (n := 1) (sz := 5) h.a5 (by omega) rfl (by omega), h.below⟩

set_option maxRecDepth 100000 in
set_option maxHeartbeats 1000000 in
theorem pair_any (w : World) : Calls Tryz.prog 20 #[] w (CopyOf w (pairN false)) := by
  go_enter Tryz.func20, Tryz.ntmps20
  go_wp2
  refine bodyPost_ret (v := .agg #[Value.slice (some { block := w.heap.size + 1 + 1 + 1, off := 0 }) 3 3, Value.slice (some { block := w.heap.size + 1 + 1 + 1 + 1, off := 0 }) 1 1, Value.slice (some { block := w.heap.size + 1 + 1 + 1 + 1 + 1, off := 0 }) 2 2,
      Value.slice (some { block := w.heap.size + 1 + 1 + 1 + 1 + 1 + 1, off := 0 }) 1 1, Value.slice (some { block := w.heap.size + 1 + 1 + 1 + 1 + 1 + 1 + 1, off := 0 }) 1 1, Value.slice none 0 0]) (by simp [results, go_sem]) rfl ?_
  exact pair_fin (chain8 w _ _ _ _ _ _ _ _)
theorem small_ok {s : ByteArray} (h : s.data.size ≤ 2) : s.size ≤ 9223372036854775807 := by
  have : s.size = s.data.size := rfl
  omega
theorem pair_ok (o : Bool) : NetOk (pairN o) := by
  refine ⟨fun s hs => ?_, fun s hs => ?_, fun s hs => ?_, fun s hs => ?_, fun s hs => ?_, fun s hs => ?_⟩ <;> simp only [pairN, List.mem_cons, List.not_mem_nil, or_false] at hs
  · rcases hs with rfl | rfl | rfl <;> exact small_ok (by decide)
  · subst hs; cases o <;> exact ⟨small_ok (by decide), small_ok (by decide), small_ok (by decide)⟩
  · rcases hs with rfl | rfl <;> exact ⟨small_ok (by decide), small_ok (by decide), small_ok (by decide)⟩
  · subst hs; exact ⟨small_ok (by decide), small_ok (by decide)⟩
  · subst hs; exact ⟨small_ok (by decide), small_ok (by decide)⟩
theorem pair_net {w : World} {o : Bool} {v : NetV} (h : NetIn w (pairN o) v) : Net w (pairN o) v := ⟨h, pair_ok o, by simp [pairN], by simp [pairN], by simp [pairN], by simp [pairN], by simp [pairN], by simp [pairN]⟩
theorem pair_check (o : Bool) : checkN (pairN o) = 0 := by cases o <;> decide +kernel
end Go.Proofs.YtfigffaghaaaoaaGreatDoor
namespace Go.Proofs.YtfigffaghaaaoaaGreatDoor
open Go.RowKit

theorem equalS_any (xs ys : List ByteArray) (n m : Nat) (A B : Option Addr) (c d : Nat) (w : World) (K L : Nat) (hx : Reads w K 1 A n (xs.map S)) (hy : Reads w L 1 B m (ys.map S)) (hn : n ≤ 1000000) (hm : m ≤ 1000000) :
    Calls Tryz.prog 13 #[.slice A n c, .slice B m d] w fun e w' => e = .returned (.bool (decide (xs = ys))) ∧ ∃ q, w' = w.drewN q := by
  have hxl : xs.length = n := by have := hx.1; simpa using this
  have hyl : ys.length = m := by have := hy.1; simpa using this
  subst hxl hyl
  by_cases hl : xs.length = ys.length
  · by_cases h0 : xs.length = 0
    · have e1 : xs = [] := List.eq_nil_of_length_eq_zero h0
      have e2 : ys = [] := List.eq_nil_of_length_eq_zero (by omega)
      subst e1 e2
      exact (Tryz.slices_Equal_string_empty A B c 0 d w (by omega)).mono fun e w' ⟨h1, h2⟩ => ⟨by rw [h1]; simp, 0, by rw [h2]; rfl⟩
    · obtain ⟨b1, o1, rfl, _, hc1⟩ := hx.2 (by omega)
      obtain ⟨b2, o2, rfl, _, hc2⟩ := hy.2 (by omega)
      refine (Tryz.slices_Equal_string b1 o1 xs.length c b2 o2 ys.length d xs ys w (Nat.le_refl _) (Nat.le_refl _) (by omega) (by omega) (fun j hj => hc1 j _ (by simp [hj])) (fun j hj => hc2 j _ (by simp [hj]))).mono fun e w' ⟨h1, h2⟩ => ⟨?_, h2⟩
      rw [h1, List.take_of_length_le (Nat.le_refl _), List.take_of_length_le (Nat.le_refl _)]
  · exact (Tryz.slices_Equal_string_lens A B xs.length c ys.length d w hl).mono fun e w' ⟨h1, h2⟩ => ⟨by rw [h1]; congr 2; symm; simp; intro h; exact hl (by rw [h]), 0, by rw [h2]; rfl⟩
end Go.Proofs.YtfigffaghaaaoaaGreatDoor
namespace Go.Proofs.YtfigffaghaaaoaaGreatDoor
open Go.RowKit

def pickN (x n : Int) : Int := IntKind.u64.wrap x % n
theorem pickN_range (x : Int) {n : Int} (h : 0 < n) : 0 ≤ pickN x n ∧ pickN x n < n := ⟨Int.emod_nonneg _ (by omega), Int.emod_lt_of_pos _ h⟩
set_option maxRecDepth 100000 in
set_option maxHeartbeats 400000 in
theorem pick_at (x n : Int) (w : World) (h0 : 0 < n) (h1 : n ≤ 1000000) : Calls Tryz.prog 8 #[I x, I n] w fun e w' => e = .returned (I (pickN x n)) ∧ w' = w := by
  have hb := pickN_range x h0
  have hn : IntKind.u64.wrap n = n := by rw [IntKind.wrap_u64]; omega
  have HE := Lib.hid (show wrap64 ((IntKind.u64.wrap x).tmod n) = pickN x n by
    rw [show (IntKind.u64.wrap x).tmod n = pickN x n from Int.tmod_eq_emod_of_nonneg (by rw [IntKind.wrap_u64]; exact Int.emod_nonneg _ (by decide))]
    exact IntWalk.wrap64_in _ (by omega))
  have hz : (n == 0) = false := by simp; omega
  clear hb
  go_enter Tryz.func8, Tryz.ntmps8
  go_wp2
  go_ret
  exact ⟨by rw [← HE.out]; rfl, rfl⟩
end Go.Proofs.YtfigffaghaaaoaaGreatDoor
namespace Go.Proofs.YtfigffaghaaaoaaGreatDoor
open Go.RowKit

/-- all parts of a watch lie below B -/
def PLt (p : Wat) (B : Nat) : Prop := p.g < B ∧ p.ab < B ∧ p.ob < B ∧ ∀ b o, p.fA = some ⟨b, o, none⟩ → b < B
theorem WS.plt {w : World} {base : Nat} {p : Wat} {bs : List BranchD} {st : List RtB} {t : Int} (h : WS w base p bs st t) : PLt p w.heap.size :=
  ⟨h.blk.lt, h.ab.lt, h.ob.lt, fun b o e => (h.fl.lt (g := b) (by rw [e]; rfl)).2⟩
theorem PLt.more {p : Wat} {B C : Nat} (h : PLt p B) (hc : B ≤ C) : PLt p C := ⟨Nat.lt_of_lt_of_le h.1 hc, Nat.lt_of_lt_of_le h.2.1 hc, Nat.lt_of_lt_of_le h.2.2.1 hc, fun b o e => Nat.lt_of_lt_of_le (h.2.2.2 b o e) hc⟩
theorem PLt.off {p : Wat} {B b o n : Nat} (h : PLt p B) (hb : B ≤ b) : Off p n (some ⟨b, o, none⟩) := fun _ b' o' e => by
  injection e with e
  injection e with e1 e2
  subst e1 e2
  exact ⟨by have := h.1; omega, by have := h.2.1; omega, by have := h.2.2.1; omega, fun o' k => by have := h.2.2.2 _ _ k; omega⟩
theorem Chg.at_ {p : Wat} {B : Nat} {w w' : World} (h : Chg p w w') (hp : PLt p B) (g : Nat) (hg : B ≤ g) (hl : g < w.heap.size) : w'.heap[g]? = w.heap[g]? :=
  h.oth g hl (by have := hp.1; omega) (by have := hp.2.1; omega) (by have := hp.2.2.1; omega) (fun o k => by have := hp.2.2.2 _ _ k; omega)
theorem Row.chg {p : Wat} {B base : Nat} {w w' : World} {e : TypeId} {sz n : Nat} {v : Value} {xs : List Value} (h : Row w base e sz v n xs) (hc : Chg p w w') (hp : PLt p B) (hb : B ≤ base) : Row w' base e sz v n xs :=
  h.keep fun g hg hl => hc.at_ hp g (Nat.le_trans hb hg) hl
theorem WS.chg {p q : Wat} {B base : Nat} {w w' : World} {bs : List BranchD} {st : List RtB} {t : Int} (h : WS w base q bs st t) (hc : Chg p w w') (hp : PLt p B) (hb : B ≤ base) : WS w' base q bs st t :=
  ⟨h.len, (hc.at_ hp _ (Nat.le_trans hb h.ge) h.blk.lt).trans h.blk, h.ge, fun k => (h.br k).chg hc hp hb, h.fl.keep hc.kw fun g hg => hc.at_ hp g (Nat.le_trans hb (h.fl.lt hg).1) (h.fl.lt hg).2,
    (hc.at_ hp _ (Nat.le_trans hb h.abg) h.ab.lt).trans h.ab, h.abg, (hc.at_ hp _ (Nat.le_trans hb h.obg) h.ob.lt).trans h.ob, h.obg⟩
/-- the branches of the network of the facts -/
def pairB : List BranchD := (pairN false).branches
def rtA : List RtB := [rt0, rt0]
def rtB : List RtB := [⟨15, 40, false⟩, ⟨0, 0, false⟩]
def rtC : List RtB := [⟨15, 80, true⟩, ⟨0, 0, false⟩]
theorem fx_40 : stepL pairB (valsV (tx1 [⟨#[49, 53]⟩, ⟨#[48]⟩])) 40 rtA = rtB := by kernel_rfl
theorem fx_80 : stepL pairB (valsV (tx1 [⟨#[45, 49, 53]⟩, ⟨#[48]⟩])) 40 rtB = rtC := by kernel_rfl
theorem fo_40 : overL pairB rtB = [] := by kernel_rfl
theorem fo_80 : overL pairB rtC = [⟨#[76, 49]⟩] := by kernel_rfl
theorem fl_40 : leftL pairB rtB = [(⟨#[76, 49]⟩, 20), (⟨#[76, 50]⟩, -1)] := by kernel_rfl
theorem brs_ok : ∀ b ∈ pairB, branchOk b = true := by
  intro b hb
  simp only [pairB, pairN, List.mem_cons, List.not_mem_nil, or_false] at hb
  rcases hb with rfl | rfl <;> decide
theorem fitR15 : FitR 210 15 := fitR_lim (k := 15) (by decide) (by decide)
theorem fitR0 : FitR 210 0 := fitR_lim (k := 0) (by decide) (by decide)
theorem okA : StOk pairB rtA := ⟨brs_ok, fun x hx => by simp only [rtA, rt0, List.mem_cons, List.not_mem_nil, or_false, or_self] at hx; subst hx; decide, fun x hx => by simp only [rtA, rt0, List.mem_cons, List.not_mem_nil, or_false, or_self] at hx; subst hx; exact fitR0⟩
theorem okB : StOk pairB rtB := ⟨brs_ok, fun x hx => by simp only [rtB, List.mem_cons, List.not_mem_nil, or_false] at hx; rcases hx with rfl | rfl <;> decide, fun x hx => by
  simp only [rtB, List.mem_cons, List.not_mem_nil, or_false] at hx
  rcases hx with rfl | rfl
  · exact fitR15
  · exact fitR0⟩
theorem sh_40 : Sh1 [⟨#[49, 53]⟩, ⟨#[48]⟩] := fun s hs => by
  simp only [List.mem_cons, List.not_mem_nil, or_false] at hs
  rcases hs with rfl | rfl <;> decide
theorem sh_80 : Sh1 [⟨#[45, 49, 53]⟩, ⟨#[48]⟩] := fun s hs => by
  simp only [List.mem_cons, List.not_mem_nil, or_false] at hs
  rcases hs with rfl | rfl <;> decide
theorem se_40 : stepE pairB.length (tx1 [⟨#[49, 53]⟩, ⟨#[48]⟩]) 40 0 = 0 := by decide +kernel
theorem se_80 : stepE pairB.length (tx1 [⟨#[45, 49, 53]⟩, ⟨#[48]⟩]) 40 40 = 0 := by decide +kernel
set_option maxRecDepth 100000 in
set_option maxHeartbeats 16000000 in
theorem ratingFact_any (w : World) (htab : Tab w) : Calls Tryz.prog 6 #[] w fun e w' => e = .returned (.bool true) ∧ Below w.heap.size w w' := by
  have HTB := Lib.hid htab
  have HB := Lib.hid (Below.refl w.heap.size w)
  clear htab
  go_enter Tryz.func6, Tryz.ntmps6
  have HC := Lib.hid (show Calls Tryz.prog 20 #[] w (fun e w' => ∃ v : NetV, e = .returned (.agg #[.slice v.na 3 v.nc, .slice v.sa 1 v.sc, .slice v.ba 2 v.bc, .slice v.ga 1 v.gc, .slice v.la 1 v.lc, .slice v.ta 0 v.tc]) ∧ NetIn w' (pairN false) v ∧ Below w.heap.size w w') from (pair_any w).mono fun e w' h => by obtain ⟨v, h1, h2, _, h3⟩ := h; exact ⟨v, h1, h2, h3⟩)
  go_wp2_with fail
  refine HC.out.mono ?_
  rintro e w1 ⟨v, rfl, hin, hb⟩
  clear HC
  have hbs := HB.out.size
  replace HB := Lib.hid (HB.out.trans (hb.mono hbs))
  clear hbs
  clear hb
  have HW1 := Lib.hid HB.out.size
  have HC := Lib.hid (show Calls Tryz.prog 7 #[.agg #[.slice v.na 3 v.nc, .slice v.sa 1 v.sc, .slice v.ba 2 v.bc, .slice v.ga 1 v.gc, .slice v.la 1 v.lc, .slice v.ta 0 v.tc]] w1 (fun e w' => ∃ p, e = .returned (.tuple #[.pointer (some ⟨p.g, 0, none⟩), I 0]) ∧ WS w' w1.heap.size p pairB rtA 0 ∧ Below w1.heap.size w1 w') from (rnew_any (pairN false) v w1 (pair_net hin)).mono fun e w' h => by obtain ⟨p, h1, h2⟩ := h.2.1 (pair_check false); exact ⟨p, h1, h2, h.2.2⟩)
  go_wp2_with fail
  refine HC.out.mono ?_
  rintro e w2 ⟨p, rfl, hws, hb⟩
  clear HC
  have hbs := HB.out.size
  replace HB := Lib.hid (HB.out.trans (hb.mono hbs))
  clear hbs
  clear hb
  clear hin
  have HW := Lib.hid (hws)
  clear hws
  have HP := Lib.hid HW.out.plt
  generalize hw2 : w2.heap.size = B2 at HP
  have hB2 := Lib.hid (Nat.le_of_eq hw2.symm)
  clear hw2
  have hoff : Off p 2 (some ⟨w2.heap.size, 0, none⟩) := HP.out.off hB2.out
  have hb := below_new w2 (.cells #[.string ⟨#[49, 53]⟩, .string ⟨#[48]⟩] 53)
  have hx := Blk.new w2 53 #[.string ⟨#[49, 53]⟩, .string ⟨#[48]⟩]
  have hbs := HB.out.size
  replace HB := Lib.hid (HB.out.trans (hb.mono hbs))
  clear hbs
  replace HW := Lib.hid (HW.out.call hb)
  replace hB2 := Lib.hid (Nat.le_trans hB2.out hb.size)
  clear hb
  have HX := Lib.hid hx
  clear hx
  have hB2a := hB2
  have hsv : SV (w2.alloc (.cells #[.string ⟨#[49, 53]⟩, .string ⟨#[48]⟩] 53)) (some ⟨w2.heap.size, 0, none⟩) 2 [⟨#[49, 53]⟩, ⟨#[48]⟩] := reads_blk (n := 2) (sz := 1) HX.out rfl
  have HC := Lib.hid (show Calls Tryz.prog 9 #[.pointer (some ⟨p.g, 0, none⟩), .slice (some ⟨w2.heap.size, 0, none⟩) 2 2, I 40] (w2.alloc (.cells #[.string ⟨#[49, 53]⟩, .string ⟨#[48]⟩] 53)) (fun e w' => ∃ A c, e = .returned (.tuple #[.slice A 0 c, I 0]) ∧ Row w' (w2.alloc (.cells #[.string ⟨#[49, 53]⟩, .string ⟨#[48]⟩] 53)).heap.size 9 1 (.slice A 0 c) 0 ([].map S) ∧ WS w' w1.heap.size p pairB rtB 40 ∧ Chg p (w2.alloc (.cells #[.string ⟨#[49, 53]⟩, .string ⟨#[48]⟩] 53)) w' ∧ Below w1.heap.size (w2.alloc (.cells #[.string ⟨#[49, 53]⟩, .string ⟨#[48]⟩] 53)) w') from (rstep_any p pairB rtA 0 w1.heap.size (w2.alloc (.cells #[.string ⟨#[49, 53]⟩, .string ⟨#[48]⟩] 53)) HW.out (by decide) okA (by decide) (by decide) [⟨#[49, 53]⟩, ⟨#[48]⟩] 2 _ 2 hsv sh_40 hoff (tab_below HTB.out HB.out) 40 (by decide)).mono fun e w' h => by
      obtain ⟨A, c, h1, h2, h3⟩ := h.2.1 se_40
      rw [fx_40] at h1 h2 h3
      rw [fo_40] at h1 h2
      exact ⟨A, c, h1, h2, h3, h.2.2.1, h.2.2.2⟩)
  go_wp2_with fail
  refine HC.out.mono ?_
  rintro e w3 ⟨A40, c40, rfl, hrow, hws, hch, hb⟩
  clear HC
  clear hsv HX hoff
  replace HW := Lib.hid hws
  have hbs := HW1.out
  replace HB := Lib.hid (HB.out.trans (hb.mono hbs))
  clear hbs hws
  replace hB2 := Lib.hid (Nat.le_trans hB2.out hb.size)
  have HR40 := Lib.hid hrow
  have HR40B := Lib.hid (show B2 ≤ (w2.alloc (.cells #[.string ⟨#[49, 53]⟩, .string ⟨#[48]⟩] 53)).heap.size from hB2a.out)
  clear hrow hch hb hB2a
  have HC := Lib.hid (show Calls Tryz.prog 10 #[.pointer (some ⟨p.g, 0, none⟩)] w3 (fun e w' => ∃ A c, e = .returned (.slice A 2 c) ∧ Row w' w3.heap.size lfT 2 (.slice A 2 c) 2 (cellsBy lfC [(⟨#[76, 49]⟩, 20), (⟨#[76, 50]⟩, -1)]) ∧ Below w3.heap.size w3 w') from (rleft_any p pairB rtB 40 w1.heap.size w3 HW.out (by decide) okB).mono fun e w' h => by
      obtain ⟨A, c, h1, h2, h3⟩ := h
      rw [fl_40] at h1 h2
      exact ⟨A, c, h1, h2, h3⟩)
  go_wp2_with fail
  refine HC.out.mono ?_
  rintro e w4 ⟨AL, cL, rfl, hrow, hb⟩
  have HRLB := hB2
  clear HC
  have hbs := HB.out.size
  replace HB := Lib.hid (HB.out.trans (hb.mono hbs))
  clear hbs
  replace HW := Lib.hid (HW.out.call hb)
  replace hB2 := Lib.hid (Nat.le_trans hB2.out hb.size)
  replace HR40 := Lib.hid (HR40.out.call hb)
  clear hb
  have HRL := Lib.hid hrow
  clear hrow
  have hoff : Off p 2 (some ⟨w4.heap.size, 0, none⟩) := HP.out.off hB2.out
  have hb := below_new w4 (.cells #[.string ⟨#[45, 49, 53]⟩, .string ⟨#[48]⟩] 53)
  have hx := Blk.new w4 53 #[.string ⟨#[45, 49, 53]⟩, .string ⟨#[48]⟩]
  have hbs := HB.out.size
  replace HB := Lib.hid (HB.out.trans (hb.mono hbs))
  clear hbs
  replace HW := Lib.hid (HW.out.call hb)
  replace hB2 := Lib.hid (Nat.le_trans hB2.out hb.size)
  replace HR40 := Lib.hid (HR40.out.call hb)
  replace HRL := Lib.hid (HRL.out.call hb)
  clear hb
  have HX := Lib.hid hx
  clear hx
  have hB2a := hB2
  have hsv : SV (w4.alloc (.cells #[.string ⟨#[45, 49, 53]⟩, .string ⟨#[48]⟩] 53)) (some ⟨w4.heap.size, 0, none⟩) 2 [⟨#[45, 49, 53]⟩, ⟨#[48]⟩] := reads_blk (n := 2) (sz := 1) HX.out rfl
  have HC := Lib.hid (show Calls Tryz.prog 9 #[.pointer (some ⟨p.g, 0, none⟩), .slice (some ⟨w4.heap.size, 0, none⟩) 2 2, I 40] (w4.alloc (.cells #[.string ⟨#[45, 49, 53]⟩, .string ⟨#[48]⟩] 53)) (fun e w' => ∃ A c, e = .returned (.tuple #[.slice A 1 c, I 0]) ∧ Row w' (w4.alloc (.cells #[.string ⟨#[45, 49, 53]⟩, .string ⟨#[48]⟩] 53)).heap.size 9 1 (.slice A 1 c) 1 ([⟨#[76, 49]⟩].map S) ∧ WS w' w1.heap.size p pairB rtC 80 ∧ Chg p (w4.alloc (.cells #[.string ⟨#[45, 49, 53]⟩, .string ⟨#[48]⟩] 53)) w' ∧ Below w1.heap.size (w4.alloc (.cells #[.string ⟨#[45, 49, 53]⟩, .string ⟨#[48]⟩] 53)) w') from (rstep_any p pairB rtB 40 w1.heap.size (w4.alloc (.cells #[.string ⟨#[45, 49, 53]⟩, .string ⟨#[48]⟩] 53)) HW.out (by decide) okB (by decide) (by decide) [⟨#[45, 49, 53]⟩, ⟨#[48]⟩] 2 _ 2 hsv sh_80 hoff (tab_below HTB.out HB.out) 40 (by decide)).mono fun e w' h => by
      obtain ⟨A, c, h1, h2, h3⟩ := h.2.1 se_80
      rw [fx_80] at h1 h2 h3
      rw [fo_80] at h1 h2
      exact ⟨A, c, h1, h2, h3, h.2.2.1, h.2.2.2⟩)
  go_wp2_with fail
  refine HC.out.mono ?_
  rintro e w5 ⟨A80, c80, rfl, hrow, hws, hch, hb⟩
  clear HC
  clear hsv HX hoff
  replace HW := Lib.hid hws
  have hbs := HW1.out
  replace HB := Lib.hid (HB.out.trans (hb.mono hbs))
  clear hbs hws
  replace hB2 := Lib.hid (Nat.le_trans hB2.out hb.size)
  replace HR40 := Lib.hid (HR40.out.chg hch HP.out HR40B.out)
  replace HRL := Lib.hid (HRL.out.chg hch HP.out HRLB.out)
  have HR80 := Lib.hid hrow
  have HR80B := Lib.hid (show B2 ≤ (w4.alloc (.cells #[.string ⟨#[45, 49, 53]⟩, .string ⟨#[48]⟩] 53)).heap.size from hB2a.out)
  clear hrow hch hb hB2a
  have hb := below_new w5 (.cells #[I 0, I 0] 34)
  have hx := Blk.new w5 34 #[I 0, I 0]
  have hbs := HB.out.size
  replace HB := Lib.hid (HB.out.trans (hb.mono hbs))
  clear hbs
  replace HW := Lib.hid (HW.out.call hb)
  replace hB2 := Lib.hid (Nat.le_trans hB2.out hb.size)
  replace HR40 := Lib.hid (HR40.out.call hb)
  replace HRL := Lib.hid (HRL.out.call hb)
  replace HR80 := Lib.hid (HR80.out.call hb)
  clear hb
  have HX := Lib.hid hx
  clear hx
  have hB2a := hB2
  have HC := Lib.hid (fine_any [0, 0] 2 (some ⟨w5.heap.size, 0, none⟩) 2 (w5.alloc (.cells #[I 0, I 0] 34)) (w5.alloc (.cells #[I 0, I 0] 34)).heap.size (reads_blk (n := 2) (sz := 1) HX.out rfl) (by decide))
  rw [show fineB [0, 0] = true from rfl] at HC
  go_wp2_with fail
  refine HC.out.mono ?_
  rintro e w6 ⟨rfl, rfl⟩
  clear HC
  clear HX
  generalize (w5.alloc (.cells #[I 0, I 0] 34)) = w7 at *
  have hb := below_new w7 (.cells #[.string ⟨#[76, 49]⟩, I 20, .string ⟨#[76, 50]⟩, I (-1)] 43)
  have hx := Blk.new w7 43 #[.string ⟨#[76, 49]⟩, I 20, .string ⟨#[76, 50]⟩, I (-1)]
  have hbs := HB.out.size
  replace HB := Lib.hid (HB.out.trans (hb.mono hbs))
  clear hbs
  replace HW := Lib.hid (HW.out.call hb)
  replace hB2 := Lib.hid (Nat.le_trans hB2.out hb.size)
  replace HR40 := Lib.hid (HR40.out.call hb)
  replace HRL := Lib.hid (HRL.out.call hb)
  replace HR80 := Lib.hid (HR80.out.call hb)
  clear hb
  have HX := Lib.hid hx
  clear hx
  have hB2a := hB2
  have HC := Lib.hid (equalL_any [(⟨#[76, 49]⟩, 20), (⟨#[76, 50]⟩, -1)] [(⟨#[76, 49]⟩, 20), (⟨#[76, 50]⟩, -1)] 2 2 AL (some ⟨w7.heap.size, 0, none⟩) cL 2 (w7.alloc (.cells #[.string ⟨#[76, 49]⟩, I 20, .string ⟨#[76, 50]⟩, I (-1)] 43)) _ _ HRL.out.reads (reads_blk (n := 2) (sz := 2) HX.out rfl) (by decide) (by decide))
  simp only [decide_true] at HC
  go_wp2_with fail
  refine HC.out.mono ?_
  rintro e w8 ⟨rfl, hb⟩
  clear HC
  have hbs := HB.out.size
  replace HB := Lib.hid (HB.out.trans (hb.mono hbs))
  clear hbs
  replace HW := Lib.hid (HW.out.call hb)
  replace hB2 := Lib.hid (Nat.le_trans hB2.out hb.size)
  replace HR40 := Lib.hid (HR40.out.call hb)
  replace HRL := Lib.hid (HRL.out.call hb)
  replace HR80 := Lib.hid (HR80.out.call hb)
  clear hb
  clear HX HRL HRLB
  have hb := below_new w8 (.cells #[.string ⟨#[76, 49]⟩] 9)
  have hx := Blk.new w8 9 #[.string ⟨#[76, 49]⟩]
  have hbs := HB.out.size
  replace HB := Lib.hid (HB.out.trans (hb.mono hbs))
  clear hbs
  replace HW := Lib.hid (HW.out.call hb)
  replace hB2 := Lib.hid (Nat.le_trans hB2.out hb.size)
  replace HR40 := Lib.hid (HR40.out.call hb)
  replace HR80 := Lib.hid (HR80.out.call hb)
  clear hb
  have HX := Lib.hid hx
  clear hx
  have hB2a := hB2
  have HC := Lib.hid (equalS_any [⟨#[76, 49]⟩] [⟨#[76, 49]⟩] 1 1 A80 (some ⟨w8.heap.size, 0, none⟩) c80 1 (w8.alloc (.cells #[.string ⟨#[76, 49]⟩] 9)) _ _ HR80.out.reads (reads_blk (n := 1) (sz := 1) HX.out rfl) (by decide) (by decide))
  simp only [decide_true] at HC
  go_wp2_with fail
  refine HC.out.mono ?_
  rintro e w9 ⟨rfl, q, rfl⟩
  clear HC
  clear HX
  have hb : Below (w8.alloc (.cells #[.string ⟨#[76, 49]⟩] 9)).heap.size _ ((w8.alloc (.cells #[.string ⟨#[76, 49]⟩] 9)).drewN q) := below_drewN _ q
  have hbs := HB.out.size
  replace HB := Lib.hid (HB.out.trans (hb.mono hbs))
  clear hbs
  replace HW := Lib.hid (HW.out.call hb)
  replace hB2 := Lib.hid (Nat.le_trans hB2.out hb.size)
  replace HR40 := Lib.hid (HR40.out.call hb)
  replace HR80 := Lib.hid (HR80.out.call hb)
  clear hb
  generalize ((w8.alloc (.cells #[.string ⟨#[76, 49]⟩] 9)).drewN q) = w10 at *
  have HC := Lib.hid (rover_any p pairB rtC 80 w1.heap.size w10 HW.out (by decide))
  rw [fo_80] at HC
  go_wp2_with fail
  refine HC.out.mono ?_
  rintro e w11 ⟨A9, c9, rfl, hrow, hb⟩
  clear HC
  have hbs := HB.out.size
  replace HB := Lib.hid (HB.out.trans (hb.mono hbs))
  clear hbs
  replace HW := Lib.hid (HW.out.call hb)
  replace hB2 := Lib.hid (Nat.le_trans hB2.out hb.size)
  replace HR40 := Lib.hid (HR40.out.call hb)
  replace HR80 := Lib.hid (HR80.out.call hb)
  clear hb
  have HR9 := Lib.hid hrow
  clear hrow
  have HC := Lib.hid (equalS_any [⟨#[76, 49]⟩] [⟨#[76, 49]⟩] 1 1 A9 A80 c9 c80 w11 _ _ HR9.out.reads HR80.out.reads (by decide) (by decide))
  simp only [decide_true] at HC
  go_wp2_with fail
  refine HC.out.mono ?_
  rintro e w12 ⟨rfl, q, rfl⟩
  clear HC
  have hb : Below w11.heap.size w11 (w11.drewN q) := below_drewN _ q
  have hbs := HB.out.size
  replace HB := Lib.hid (HB.out.trans (hb.mono hbs))
  clear hbs
  replace HW := Lib.hid (HW.out.call hb)
  replace hB2 := Lib.hid (Nat.le_trans hB2.out hb.size)
  replace HR40 := Lib.hid (HR40.out.call hb)
  replace HR80 := Lib.hid (HR80.out.call hb)
  replace HR9 := Lib.hid (HR9.out.call hb)
  clear hb
  generalize (w11.drewN q) = w13 at *
  have HC := Lib.hid (rtime_any p pairB rtC 80 w1.heap.size w13 HW.out)
  go_wp2_with fail
  refine HC.out.mono ?_
  rintro e w14 ⟨rfl, rfl⟩
  clear HC
  go_wp2
  go_ret
  exact ⟨rfl, HB.out⟩
end Go.Proofs.YtfigffaghaaaoaaGreatDoor
namespace Go.Proofs.YtfigffaghaaaoaaGreatDoor
open Go.RowKit

/-- two watches with nothing in common -/
def WApart (p q : Wat) : Prop := p.g ≠ q.g ∧ p.ab ≠ q.ab ∧ p.ob ≠ q.ob ∧ ∀ b o o', p.fA = some ⟨b, o, none⟩ → q.fA ≠ some ⟨b, o', none⟩
theorem WApart.symm {p q : Wat} (h : WApart p q) : WApart q p := ⟨fun e => h.1 e.symm, fun e => h.2.1 e.symm, fun e => h.2.2.1 e.symm, fun b o o' e k => h.2.2.2 b o' o k e⟩
theorem apart_of {w : World} {B base : Nat} {p q : Wat} {bs : List BranchD} {st : List RtB} {t : Int} (hp : PLt p B) (h : WS w base q bs st t) (hb : B ≤ base) : WApart p q :=
  ⟨by have := hp.1; have := h.ge; omega, by have := hp.2.1; have := h.abg; omega, by have := hp.2.2.1; have := h.obg; omega, fun b o o' e k => by
    have h1 := hp.2.2.2 b o e
    have h2 := (h.fl.lt (g := b) (by rw [k]; rfl)).1
    omega⟩
theorem fl_blk {w : World} {base : Nat} {p : Wat} {bs : List BranchD} {st : List RtB} {t : Int} (h : WS w base p bs st t) {b o : Nat} (e : p.fA = some ⟨b, o, none⟩) : ∃ cs, Blk w b ratT cs := h.fl.blk (g := b) (by rw [e]; rfl)
theorem Chg.typ {w w' : World} {base : Nat} {q : Wat} {bs : List BranchD} {st : List RtB} {t : Int} (hc : Chg q w w') (hq : WS w base q bs st t) {b : Nat} {e : TypeId} {cs : Array Value} (h : Blk w b e cs) (h1 : e ≠ watT) (h2 : e ≠ 3) (h3 : e ≠ boolT) (h4 : e ≠ ratT) : w'.heap[b]? = w.heap[b]? :=
  hc.oth b h.lt (blk_ne h hq.blk h1) (blk_ne h hq.ab h2) (blk_ne h hq.ob h3) fun o k => by
    obtain ⟨ds, hd⟩ := fl_blk hq k
    exact blk_ne h hd h4 rfl
theorem Row.typ {w w' : World} {base base2 : Nat} {q : Wat} {bs : List BranchD} {st : List RtB} {t : Int} {e : TypeId} {sz n : Nat} {v : Value} {xs : List Value} (h : Row w base2 e sz v n xs) (hc : Chg q w w') (hq : WS w base q bs st t) (h1 : e ≠ watT) (h2 : e ≠ 3) (h3 : e ≠ boolT) (h4 : e ≠ ratT) : Row w' base2 e sz v n xs :=
  h.keepO fun g hg => by
    obtain ⟨_, _, cs, hB⟩ := Proofs.YtfigffaghaaaoaaGreatDoor.own_lt h hg
    exact hc.typ hq hB h1 h2 h3 h4
theorem WS.apart {w w' : World} {base base2 : Nat} {p q : Wat} {bs bs2 : List BranchD} {st st2 : List RtB} {t t2 : Int} (h : WS w base p bs st t) (hc : Chg q w w') (hq : WS w base2 q bs2 st2 t2) (ha : WApart p q) : WS w' base p bs st t := by
  have nf : ∀ {b : Nat} {e : TypeId} {cs : Array Value}, Blk w b e cs → e ≠ ratT → ∀ o, q.fA ≠ some ⟨b, o, none⟩ := fun hB he o k => by
    obtain ⟨ds, hd⟩ := fl_blk hq k
    exact blk_ne hB hd he rfl
  refine ⟨h.len, ?_, h.ge, fun k => (h.br k).typ hc hq (by decide) (by decide) (by decide) (by decide), h.fl.keep hc.kw fun g hg => ?_, ?_, h.abg, ?_, h.obg⟩
  · exact (hc.oth _ h.blk.lt ha.1 (blk_ne h.blk hq.ab (by decide)) (blk_ne h.blk hq.ob (by decide)) (nf h.blk (by decide))).trans h.blk
  · obtain ⟨cs, hB⟩ := h.fl.blk hg
    refine hc.oth g hB.lt (blk_ne hB hq.blk (by decide)) (blk_ne hB hq.ab (by decide)) (blk_ne hB hq.ob (by decide)) fun o k => ?_
    obtain ⟨o', e⟩ : ∃ o', p.fA = some ⟨g, o', none⟩ := by
      cases hf : p.fA with
      | none => rw [hf] at hg; cases hg
      | some a =>
        rw [hf] at hg
        obtain ⟨⟨ys, hrow, _⟩, _⟩ := h.fl
        rw [hf] at hrow
        rcases hrow.2 with ⟨hv, _⟩ | ⟨g', off, cap, cur, hv, _⟩
        · injection hv with hv; cases hv
        · injection hv with hv
          injection hv with hv
          subst hv
          have : g' = g := by simpa [Value.ownBlock] using hg
          subst this
          exact ⟨off, rfl⟩
    exact ha.2.2.2 g o' o e k
  · exact (hc.oth _ h.ab.lt (blk_ne h.ab hq.blk (by decide)) ha.2.1 (blk_ne h.ab hq.ob (by decide)) (nf h.ab (by decide))).trans h.ab
  · exact (hc.oth _ h.ob.lt (blk_ne h.ob hq.blk (by decide)) (blk_ne h.ob hq.ab (by decide)) ha.2.2.1 (nf h.ob (by decide))).trans h.ob
/-- an older slice is not part of a watch -/
theorem off_old {w w' : World} {base n sz : Nat} {p : Wat} {bs : List BranchD} {st : List RtB} {t : Int} {A : Option Addr} {xs : List Value} (h : Reads w w.heap.size sz A n xs) (hp : WS w' base p bs st t) (hb : w.heap.size ≤ base) : Off p n A := by
  intro hn b o e2
  obtain ⟨b0, off, e, hlt, _⟩ := h.2 hn
  rw [e] at e2
  injection e2 with e2
  injection e2 with e2 _
  subst e2
  refine ⟨by have := hp.ge; omega, by have := hp.abg; omega, by have := hp.obg; omega, fun o' k => ?_⟩
  have := (hp.fl.lt (g := b0) (by rw [k]; rfl)).1
  omega
/-- a block of texts is not part of a watch -/
theorem off_typ {w : World} {base : Nat} {p : Wat} {bs : List BranchD} {st : List RtB} {t : Int} (hp : WS w base p bs st t) {b : Nat} {e : TypeId} {cs : Array Value} (h : Blk w b e cs) (h1 : e ≠ watT) (h2 : e ≠ 3) (h3 : e ≠ boolT) (h4 : e ≠ ratT) (o n : Nat) : Off p n (some ⟨b, o, none⟩) := by
  intro _ b' o' e2
  injection e2 with e2
  injection e2 with e2 _
  subst e2
  exact ⟨blk_ne h hp.blk h1, blk_ne h hp.ab h2, blk_ne h hp.ob h3, fun o' k => by
    obtain ⟨ds, hd⟩ := fl_blk hp k
    exact blk_ne h hd h4 rfl⟩
def stN (bs : List BranchD) (l : List (List UInt8)) (s t : Int) (st : List RtB) : List ByteArray := if stepE bs.length l s t = 0 then overL bs (stepL bs (valsV l) s st) else []
def stS (bs : List BranchD) (l : List (List UInt8)) (s t : Int) (st : List RtB) : List RtB := if stepE bs.length l s t = 0 then stepL bs (valsV l) s st else st
def stT (bs : List BranchD) (l : List (List UInt8)) (s t : Int) : Int := if stepE bs.length l s t = 0 then t + s else t
def RetU (w : World) (base : Nat) (p : Wat) (bs : List BranchD) (l : List (List UInt8)) (s t : Int) (st : List RtB) (e : Ending) (w' : World) : Prop :=
  ∃ A c, e = .returned (.tuple #[.slice A (stN bs l s t st).length c, I (stepE bs.length l s t)]) ∧ Row w' w.heap.size 9 1 (.slice A (stN bs l s t st).length c) (stN bs l s t st).length ((stN bs l s t st).map S) ∧ WS w' base p bs (stS bs l s t st) (stT bs l s t) ∧ Chg p w w' ∧ Below base w w'
theorem rstepU_any (p : Wat) (bs : List BranchD) (st : List RtB) (t : Int) (base : Nat) (w : World) (h : WS w base p bs st t) (hbn : bs.length ≤ 24) (hok : StOk bs st) (ht0 : 0 ≤ t) (ht1 : t ≤ 200000) (l : List ByteArray) (n : Nat) (A : Option Addr) (c : Nat) (hv : SV w A n l) (hsb : Sh1 l) (hoff : Off p n A) (htab : Tab w) (s : Int) (hsr : -9000000000000000000 ≤ s ∧ s ≤ 9000000000000000000) :
    Calls Tryz.prog 9 #[.pointer (some ⟨p.g, 0, none⟩), .slice A n c, I s] w (RetU w base p bs (tx1 l) s t st) := by
  refine (rstep_any p bs st t base w h hbn hok ht0 ht1 l n A c hv hsb hoff htab s hsr).mono fun e w' hr => ?_
  obtain ⟨h1, h2, h3, h4⟩ := hr
  by_cases he : stepE bs.length (tx1 l) s t = 0
  · obtain ⟨B, d, rfl, hrow, hw⟩ := h2 he
    refine ⟨B, d, ?_, ?_, ?_, h3, h4⟩
    · rw [stN, if_pos he, he]
    · rw [stN, if_pos he]; exact hrow
    · rw [stS, if_pos he, stT, if_pos he]; exact hw
  · obtain ⟨_, rfl, _, hw, _⟩ := h1 he
    refine ⟨none, 0, ?_, ?_, ?_, h3, h4⟩
    · rw [stN, if_neg he]; rfl
    · rw [stN, if_neg he]; exact Row.nil _ _ _ _
    · rw [stS, if_neg he, stT, if_neg he]; exact hw
theorem stN_le (bs : List BranchD) (l : List (List UInt8)) (s t : Int) (st : List RtB) : (stN bs l s t st).length ≤ bs.length := by
  rw [stN]
  split
  · exact overL_le _ _
  · simp
/-- the error does not depend on the seconds, where the time suffices -/
theorem stepE_eq {n : Nat} {l : List (List UInt8)} {s t s' t' : Int} (h1 : 1 ≤ s) (h2 : s ≤ 200000 - t) (h3 : 1 ≤ s') (h4 : s' ≤ 200000 - t') : stepE n l s t = stepE n l s' t' := by
  unfold stepE
  rw [if_neg (show ¬ (s < 1 ∨ 200000 - t < s) by omega), if_neg (show ¬ (s' < 1 ∨ 200000 - t' < s') by omega)]
theorem stepE_ok {n : Nat} {l : List (List UInt8)} {s t : Int} (h : stepE n l s t = 0) : chkV l = 0 ∧ l.length = n := by
  unfold stepE at h
  by_cases h1 : chkV l ≠ 0
  · rw [if_pos h1] at h; exact absurd h h1
  · rw [if_neg h1] at h
    by_cases h2 : l.length ≠ n
    · rw [if_pos h2] at h; cases h
    · exact ⟨Decidable.not_not.1 h1, Decidable.not_not.1 h2⟩
/-- states within m seconds -/
structure StM (bs : List BranchD) (st : List RtB) (m : Int) : Prop where
  b : ∀ b ∈ bs, branchOk b = true
  len : st.length = bs.length
  a : ∀ x ∈ st, 0 ≤ x.a ∧ x.a ≤ m
  f : ∀ x ∈ st, FitR 210 x.f
theorem StM.ok {bs : List BranchD} {st : List RtB} {m : Int} (h : StM bs st m) (hm : m ≤ 200000) : StOk bs st := ⟨h.b, fun x hx => ⟨(h.a x hx).1, Int.le_trans (h.a x hx).2 hm⟩, h.f⟩
theorem stM_zero {n : NetD} (h : VNet n) : StM n.branches (List.replicate n.branches.length rt0) 0 :=
  ⟨fun b hb => (h.br b hb).2.2.2, by simp, fun x hx => by rw [(List.mem_replicate.1 hx).2]; decide, fun x hx => by rw [(List.mem_replicate.1 hx).2]; exact fitR0⟩
theorem stM_step : ∀ (bs : List BranchD) (qs : List Rat) (st : List RtB) (m s : Int), StM bs st m → qs.length = bs.length → (∀ q ∈ qs, FitR 210 q) → 0 ≤ s → 0 ≤ m → StM bs (stepL bs qs s st) (m + s) := by
  intro bs qs st m s h hq hf hs hm
  have hl := stepL_len bs qs s st hq h.len
  have key : ∀ x ∈ stepL bs qs s st, (0 ≤ x.a ∧ x.a ≤ m + s) ∧ FitR 210 x.f := by
    intro y hy
    obtain ⟨i, hi, rfl⟩ := List.mem_iff_getElem.1 hy
    rw [hl] at hi
    have e1 : bs[i]? = some (bs[i]) := List.getElem?_eq_getElem hi
    have e2 : qs[i]? = some (qs[i]'(by omega)) := List.getElem?_eq_getElem (by omega)
    have e3 : st[i]? = some (st[i]'(by rw [h.len]; exact hi)) := List.getElem?_eq_getElem (by rw [h.len]; exact hi)
    have h4 := stepL_at bs qs s st i _ _ _ e1 e2 e3
    rw [List.getElem?_eq_getElem (by omega)] at h4
    rw [Option.some.inj h4]
    have ha := h.a _ (List.mem_of_getElem? e3)
    have hff := abs_fit (hf _ (List.mem_of_getElem? e2))
    rw [rtStep]
    split
    · exact ⟨⟨by simp only; omega, by simp only; omega⟩, hff⟩
    · exact ⟨⟨by simp, by simp only; omega⟩, hff⟩
  exact ⟨h.b, hl, fun x hx => (key x hx).1, fun x hx => (key x hx).2⟩
theorem stM_stS {bs : List BranchD} {l : List ByteArray} {st : List RtB} {m s t : Int} (h : StM bs st m) (hs : 0 ≤ s) (hm : 0 ≤ m) : StM bs (stS bs (tx1 l) s t st) (m + s) := by
  rw [stS]
  split
  · rename_i he
    obtain ⟨k1, k2⟩ := stepE_ok he
    exact stM_step _ _ _ _ _ h (by rw [valsV, List.length_map]; exact k2) (fit1_of k1) hs hm
  · exact ⟨h.b, h.len, fun x hx => by have := h.a x hx; omega, h.f⟩
/-- two steps with the same flows are one -/
theorem split_law (bs : List BranchD) (l : List (List UInt8)) (st : List RtB) {a b : Int} (ha : 1 ≤ a) (ha2 : a ≤ 2000) (hb : 1 ≤ b) (hb2 : b ≤ 2000) :
    stepE bs.length l a 0 = stepE bs.length l (a + b) 0 ∧ stepE bs.length l b (stT bs l a 0) = stepE bs.length l (a + b) 0 ∧ stS bs l b (stT bs l a 0) (stS bs l a 0 st) = stS bs l (a + b) 0 st ∧ stT bs l b (stT bs l a 0) = stT bs l (a + b) 0 ∧ stN bs l b (stT bs l a 0) (stS bs l a 0 st) = stN bs l (a + b) 0 st := by
  have e1 : stepE bs.length l a 0 = stepE bs.length l (a + b) 0 := stepE_eq ha (by omega) (by omega) (by omega)
  by_cases h : stepE bs.length l (a + b) 0 = 0
  · have hT : stT bs l a 0 = a := by rw [stT, if_pos (e1.trans h), Int.zero_add]
    have e2 : stepE bs.length l b a = stepE bs.length l (a + b) 0 := stepE_eq hb (by omega) (by omega) (by omega)
    have hS : stS bs l a 0 st = stepL bs (valsV l) a st := by rw [stS, if_pos (e1.trans h)]
    rw [hT, hS]
    refine ⟨e1, e2, ?_, ?_, ?_⟩
    · rw [stS, if_pos (e2.trans h), stS, if_pos h, stepL_split _ _ _ _ (by omega)]
    · rw [stT, if_pos (e2.trans h), stT, if_pos h, Int.zero_add]
    · rw [stN, if_pos (e2.trans h), stN, if_pos h, stepL_split _ _ _ _ (by omega)]
  · have hT : stT bs l a 0 = 0 := by rw [stT, if_neg (fun k => h (e1.symm.trans k))]
    have e2 : stepE bs.length l b 0 = stepE bs.length l (a + b) 0 := stepE_eq hb (by omega) (by omega) (by omega)
    have hS : stS bs l a 0 st = st := by rw [stS, if_neg (fun k => h (e1.symm.trans k))]
    rw [hT, hS]
    refine ⟨e1, e2, ?_, ?_, ?_⟩
    · rw [stS, if_neg (fun k => h (e2.symm.trans k)), stS, if_neg h]
    · rw [stT, if_neg (fun k => h (e2.symm.trans k)), stT, if_neg h]
    · rw [stN, if_neg (fun k => h (e2.symm.trans k)), stN, if_neg h]
theorem stT_range {bs : List BranchD} {l : List (List UInt8)} {s t : Int} (hs : 0 ≤ s) (ht : 0 ≤ t) : 0 ≤ stT bs l s t ∧ stT bs l s t ≤ t + s := by
  rw [stT]
  split <;> omega
/-- the names of branches are different -/
theorem br_nodup {n : NetD} (h : VNet n) : (n.branches.map (·.name)).Nodup := by
  have hn := h.nodup
  simp only [NetD.items, List.map_append, List.map_map] at hn
  have h1 := (List.nodup_append.1 hn).2.1
  have h2 := (List.nodup_append.1 h1).2.1
  have h3 := (List.nodup_append.1 h2).1
  exact h3
theorem overL_sub : ∀ (bs : List BranchD) (st : List RtB) (x : ByteArray), x ∈ overL bs st → x ∈ bs.map (·.name)
  | [], _, _, h => by simp [overL] at h
  | _ :: _, [], _, h => by simp [overL] at h
  | b :: bs, y :: st, x, h => by
    rw [overL] at h
    rw [List.map_cons, List.mem_cons]
    split at h
    · rcases List.mem_cons.1 h with h | h
      · exact .inl h
      · exact .inr (overL_sub bs st x h)
    · exact .inr (overL_sub bs st x h)
theorem overL_has : ∀ (bs : List BranchD) (st : List RtB) (k : Nat) (b : BranchD) (x : RtB), (bs.map (·.name)).Nodup → bs[k]? = some b → st[k]? = some x → Lib.containsS (overL bs st) b.name = x.o
  | [], _, _, _, _, _, h, _ => by simp at h
  | _ :: _, [], _, _, _, _, _, h => by simp at h
  | b :: bs, y :: st, 0, b', x, hn, h1, h2 => by
    simp at h1 h2; subst h1 h2
    rw [List.map_cons, List.nodup_cons] at hn
    rw [overL]
    cases ho : y.o with
    | true => rw [if_pos rfl]; exact (Lib.containsS_iff _ _).2 List.mem_cons_self
    | false =>
      rw [if_neg (by decide)]
      exact Bool.eq_false_iff.2 fun k => hn.1 (overL_sub bs st _ ((Lib.containsS_iff _ _).1 k))
  | b :: bs, y :: st, k + 1, b', x, hn, h1, h2 => by
    rw [List.map_cons, List.nodup_cons] at hn
    have h1' : bs[k]? = some b' := by simpa using h1
    have ih := overL_has bs st k b' x hn.2 h1' (by simpa using h2)
    have hne : b'.name ≠ b.name := fun e => hn.1 (by rw [← e]; exact List.mem_map.2 ⟨b', List.mem_of_getElem? h1', rfl⟩)
    rw [overL]
    split
    · rw [← ih, Bool.eq_iff_iff, Lib.containsS_iff, Lib.containsS_iff, List.mem_cons]
      exact ⟨fun h => h.resolve_left hne, .inr⟩
    · exact ih
theorem leftL_at : ∀ (bs : List BranchD) (st : List RtB) (k : Nat) (b : BranchD) (x : RtB), bs[k]? = some b → st[k]? = some x → (leftL bs st)[k]? = some (b.name, leftB b x)
  | [], _, _, _, _, h, _ => by simp at h
  | _ :: _, [], _, _, _, _, h => by simp at h
  | b :: bs, y :: st, 0, b', x, h1, h2 => by
    simp at h1 h2; subst h1 h2
    simp [leftL]
  | b :: bs, y :: st, k + 1, b', x, h1, h2 => by
    rw [leftL, List.getElem?_cons_succ]
    exact leftL_at bs st k b' x (by simpa using h1) (by simpa using h2)
/-- after Left seconds more a branch is not yet exceeded, a second later it is -/
theorem left_law {bs : List BranchD} {qs : List Rat} {s m : Int} {k : Nat} {b : BranchD} {q : Rat} (hn : (bs.map (·.name)).Nodup) (h1 : bs[k]? = some b) (h2 : qs[k]? = some q) (hl : 1 ≤ leftB b (rtStep b q s rt0)) (hm : 0 ≤ m) :
    Lib.containsS (overL bs (stepL bs qs (leftB b (rtStep b q s rt0) + m) (stepL bs qs s (List.replicate bs.length rt0)))) b.name = decide (0 < m) := by
  have h0 : (List.replicate bs.length rt0)[k]? = some rt0 := by rw [List.getElem?_replicate, if_pos (List.getElem?_eq_some_iff.1 h1).1]
  have h3 := stepL_at bs qs s _ k b q rt0 h1 h2 h0
  have h4 := stepL_at bs qs (leftB b (rtStep b q s rt0) + m) _ k b q _ h1 h2 h3
  rw [overL_has bs _ k b _ hn h1 h4]
  exact rtStep_left b q s m hl hm
/-- a step without flows -/
theorem rest_law : ∀ (bs : List BranchD) (qs : List Rat) (s : Int) (st : List RtB), (∀ b ∈ bs, branchOk b = true) → (∀ q ∈ qs, q = 0) → overL bs (stepL bs qs s st) = [] ∧ ∀ x ∈ leftL bs (stepL bs qs s st), x.2 = -1
  | [], _, _, _, _, _ => by simp [overL, leftL]
  | _ :: _, [], _, _, _, _ => by simp [stepL, overL, leftL]
  | _ :: _, _ :: _, _, [], _, _ => by simp [stepL, overL, leftL]
  | b :: bs, q :: qs, s, x :: st, hb, hq => by
    obtain ⟨i1, i2⟩ := rest_law bs qs s st (fun b hb' => hb b (List.mem_cons_of_mem _ hb')) (fun q hq' => hq q (List.mem_cons_of_mem _ hq'))
    have h0 := hq q List.mem_cons_self
    subst h0
    obtain ⟨k1, k2⟩ := rtStep_rest b (branch_lim (hb b List.mem_cons_self)).1 s x
    rw [stepL, k1, overL, leftL]
    refine ⟨by rw [if_neg (by decide)]; exact i1, fun y hy => ?_⟩
    rcases List.mem_cons.1 hy with rfl | hy
    · exact k2
    · exact i2 y hy
end Go.Proofs.YtfigffaghaaaoaaGreatDoor
