/- The network of the facts: gridhallkeep1.pair. -/
import Derived.Test.YtglbelmljdgaoaaGreatDoorOf
namespace Go.Proofs.YtglbelmljdgaoaaGreatDoor
open Go.RowKit

def bA : ByteArray := ⟨#[65]⟩
def bB : ByteArray := ⟨#[66]⟩
def bC : ByteArray := ⟨#[67]⟩
def pairN (o : Bool) : NetD where
  nodes := [⟨#[65]⟩, ⟨#[66]⟩, ⟨#[67]⟩]
  switches := [⟨⟨#[83]⟩, ⟨#[65]⟩, ⟨#[66]⟩, false, o⟩]
  branches := [⟨⟨#[76, 49]⟩, ⟨#[65]⟩, ⟨#[67]⟩, 1000, 1000, 0, 10, 20, 60⟩, ⟨⟨#[76, 50]⟩, ⟨#[65]⟩, ⟨#[67]⟩, 1000, 1000, 0, 10, 20, 60⟩]
  gens := [⟨⟨#[71]⟩, ⟨#[66]⟩, 1, 30, 5⟩]
  loads := [⟨⟨#[68]⟩, ⟨#[67]⟩, 8⟩]
  stores := []

theorem reads_blk {w : World} {g n sz : Nat} {t : TypeId} {cs : Array Value} (h : Blk w g t cs) (hl : cs.size = n * sz) : Reads w w.heap.size sz (some ⟨g, 0, none⟩) n cs.toList := by
  refine ⟨by simpa using hl, fun _ => ⟨g, 0, rfl, h.lt, fun j u hu => ?_⟩⟩
  rw [h.cell, Nat.zero_add]
  simpa using hu
theorem row_blk {w : World} {g n sz base : Nat} {t : TypeId} {cs : Array Value} (h : Blk w g t cs) (hb : base ≤ g) (hl : cs.size = n * sz) (hm : n ≤ 1000000) : Row w base t sz (.slice (some ⟨g, 0, none⟩) n n) n cs.toList := by
  refine ⟨by simpa using hl, .inr ⟨g, 0, n, cs, rfl, hb, h, Nat.le_refl _, by unfold maxLen; omega, by omega, ?_⟩⟩
  rw [List.drop_zero, List.take_of_length_le (by simp [hl])]
/-- eight new blocks, the last five by name -/
structure Chain8 (w : World) (o4 o5 o6 o7 o8 : Obj) (W : World) : Prop where
  a4 : W.heap[w.heap.size + 1 + 1 + 1]? = some o4
  a5 : W.heap[w.heap.size + 1 + 1 + 1 + 1]? = some o5
  a6 : W.heap[w.heap.size + 1 + 1 + 1 + 1 + 1]? = some o6
  a7 : W.heap[w.heap.size + 1 + 1 + 1 + 1 + 1 + 1]? = some o7
  a8 : W.heap[w.heap.size + 1 + 1 + 1 + 1 + 1 + 1 + 1]? = some o8
  below : Below w.heap.size w W
theorem chain8 (w : World) (o1 o2 o3 o4 o5 o6 o7 o8 : Obj) : Chain8 w o4 o5 o6 o7 o8 ((((((((w.alloc o1).alloc o2).alloc o3).alloc o4).alloc o5).alloc o6).alloc o7).alloc o8) := by
  refine ⟨?_, ?_, ?_, ?_, ?_, ?_⟩
  · have := heap_alloc_new (((w.alloc o1).alloc o2).alloc o3) o4
    simp only [World.size_alloc] at this
    rw [Below.heap_alloc _ _ _ (by simp only [World.size_alloc]; omega), Below.heap_alloc _ _ _ (by simp only [World.size_alloc]; omega), Below.heap_alloc _ _ _ (by simp only [World.size_alloc]; omega), Below.heap_alloc _ _ _ (by simp only [World.size_alloc]; omega)]
    exact this
  · have := heap_alloc_new ((((w.alloc o1).alloc o2).alloc o3).alloc o4) o5
    simp only [World.size_alloc] at this
    rw [Below.heap_alloc _ _ _ (by simp only [World.size_alloc]; omega), Below.heap_alloc _ _ _ (by simp only [World.size_alloc]; omega), Below.heap_alloc _ _ _ (by simp only [World.size_alloc]; omega)]
    exact this
  · have := heap_alloc_new (((((w.alloc o1).alloc o2).alloc o3).alloc o4).alloc o5) o6
    simp only [World.size_alloc] at this
    rw [Below.heap_alloc _ _ _ (by simp only [World.size_alloc]; omega), Below.heap_alloc _ _ _ (by simp only [World.size_alloc]; omega)]
    exact this
  · have := heap_alloc_new ((((((w.alloc o1).alloc o2).alloc o3).alloc o4).alloc o5).alloc o6) o7
    simp only [World.size_alloc] at this
    rw [Below.heap_alloc _ _ _ (by simp only [World.size_alloc]; omega)]
    exact this
  · have := heap_alloc_new (((((((w.alloc o1).alloc o2).alloc o3).alloc o4).alloc o5).alloc o6).alloc o7) o8
    simp only [World.size_alloc] at this
    exact this
  · have h := Below.refl w.heap.size w
    exact (((((((h.alloc (Nat.le_refl _) o1).alloc (by simp only [World.size_alloc]; omega) o2).alloc (by simp only [World.size_alloc]; omega) o3).alloc (by simp only [World.size_alloc]; omega) o4).alloc (by simp only [World.size_alloc]; omega) o5).alloc (by simp only [World.size_alloc]; omega) o6).alloc (by simp only [World.size_alloc]; omega) o7).alloc (by simp only [World.size_alloc]; omega) o8

theorem pair_fin {w W : World} (h : Chain8 w (.cells #[.string ⟨#[65]⟩, .string ⟨#[66]⟩, .string ⟨#[67]⟩] 9) (.cells #[.string ⟨#[83]⟩, .string ⟨#[65]⟩, .string ⟨#[66]⟩, .bool false, .bool false] 39)
      (.cells #[.string ⟨#[76, 49]⟩, .string ⟨#[65]⟩, .string ⟨#[67]⟩, I 1000, I 1000, I 0, I 10, I 20, I 60, .string ⟨#[76, 50]⟩, .string ⟨#[65]⟩, .string ⟨#[67]⟩, I 1000, I 1000, I 0, I 10, I 20, I 60] 48)
      (.cells #[.string ⟨#[71]⟩, .string ⟨#[66]⟩, I 1, I 30, I 5] 64) (.cells #[.string ⟨#[68]⟩, .string ⟨#[67]⟩, I 8] 59) W) :
    CopyOf w (pairN false) (.returned (.agg #[Value.slice (some { block := w.heap.size + 1 + 1 + 1, off := 0 }) 3 3, Value.slice (some { block := w.heap.size + 1 + 1 + 1 + 1, off := 0 }) 1 1, Value.slice (some { block := w.heap.size + 1 + 1 + 1 + 1 + 1, off := 0 }) 2 2,
      Value.slice (some { block := w.heap.size + 1 + 1 + 1 + 1 + 1 + 1, off := 0 }) 1 1, Value.slice (some { block := w.heap.size + 1 + 1 + 1 + 1 + 1 + 1 + 1, off := 0 }) 1 1, Value.slice none 0 0])) W :=
  ⟨⟨some ⟨w.heap.size + 1 + 1 + 1, 0, none⟩, 3, some ⟨w.heap.size + 1 + 1 + 1 + 1, 0, none⟩, 1, some ⟨w.heap.size + 1 + 1 + 1 + 1 + 1, 0, none⟩, 2, some ⟨w.heap.size + 1 + 1 + 1 + 1 + 1 + 1, 0, none⟩, 1, some ⟨w.heap.size + 1 + 1 + 1 + 1 + 1 + 1 + 1, 0, none⟩, 1, none, 0⟩, rfl,
    ⟨reads_blk (n := 3) (sz := 1) h.a4 rfl, reads_blk (n := 1) (sz := 5) h.a5 rfl, reads_blk (n := 2) (sz := 9) h.a6 rfl, reads_blk (n := 1) (sz := 5) h.a7 rfl, reads_blk (n := 1) (sz := 3) h.a8 rfl, Reads.nil⟩,
    fun _ => row_blk (n := 1) (sz := 5) h.a5 (by omega) rfl (by omega), h.below⟩

set_option maxRecDepth 100000 in
set_option maxHeartbeats 1000000 in
theorem pair_any (w : World) : Calls Tryz.prog 15 #[] w (CopyOf w (pairN false)) := by
  go_enter Tryz.func15, Tryz.ntmps15
  go_wp2
  refine bodyPost_ret (v := .agg #[Value.slice (some { block := w.heap.size + 1 + 1 + 1, off := 0 }) 3 3, Value.slice (some { block := w.heap.size + 1 + 1 + 1 + 1, off := 0 }) 1 1, Value.slice (some { block := w.heap.size + 1 + 1 + 1 + 1 + 1, off := 0 }) 2 2,
      Value.slice (some { block := w.heap.size + 1 + 1 + 1 + 1 + 1 + 1, off := 0 }) 1 1, Value.slice (some { block := w.heap.size + 1 + 1 + 1 + 1 + 1 + 1 + 1, off := 0 }) 1 1, Value.slice none 0 0]) (by simp [results, go_sem]) rfl ?_
  exact pair_fin (chain8 w _ _ _ _ _ _ _ _)
theorem small_ok {s : ByteArray} (h : s.data.size ≤ 2) : s.size ≤ 9223372036854775807 := by
  have : s.size = s.data.size := rfl
  omega
theorem pair_ok (o : Bool) : NetOk (pairN o) := by
  refine ⟨fun s hs => ?_, fun s hs => ?_, fun s hs => ?_, fun s hs => ?_, fun s hs => ?_, fun s hs => ?_⟩ <;> simp only [pairN, List.mem_cons, List.not_mem_nil, or_false] at hs
  · rcases hs with rfl | rfl | rfl <;> exact small_ok (by decide)
  · subst hs; cases o <;> exact ⟨small_ok (by decide), small_ok (by decide), small_ok (by decide)⟩
  · rcases hs with rfl | rfl <;> exact ⟨small_ok (by decide), small_ok (by decide), small_ok (by decide)⟩
  · subst hs; exact ⟨small_ok (by decide), small_ok (by decide)⟩
  · subst hs; exact ⟨small_ok (by decide), small_ok (by decide)⟩
theorem pair_net {w : World} {o : Bool} {v : NetV} (h : NetIn w (pairN o) v) : Net w (pairN o) v := ⟨h, pair_ok o, by simp [pairN], by simp [pairN], by simp [pairN], by simp [pairN], by simp [pairN], by simp [pairN]⟩
theorem pair_check (o : Bool) : checkN (pairN o) = 0 := by cases o <;> decide +kernel
theorem pair_le (o : Bool) : NetLe (pairN o) 1000000 := ⟨by simp [pairN], by simp [pairN], by simp [pairN], by simp [pairN], by simp [pairN], by simp [pairN]⟩
theorem pair_of : ofL (pairN false) = (([0, 0, 1], [0, 0]), 0) := by decide +kernel
theorem pair_of_open : ofL (pairN true) = (([0, 1, 2], [0, 1, 0]), 0) := by decide +kernel
end Go.Proofs.YtglbelmljdgaoaaGreatDoor
