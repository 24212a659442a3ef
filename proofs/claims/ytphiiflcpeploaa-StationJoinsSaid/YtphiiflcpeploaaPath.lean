/- graph.path and graph.all. -/
import Derived.Test.YtphiiflcpeploaaTree
namespace Go.Proofs.Ytphiiflcpeploaa
open Go.RowKit

structure PathM (w : World) (g n : Nat) (l : List (Int × Int)) (es : List Int) (to : Int) (res : List Int) (f : Nat) (o q : List Int) (v : Value) (wr : World) : Prop where
  nums : Nums w g n o wr
  row : Row wr (g + 1) 3 1 v q.length (q.map I)
  far : FarInv n l es to o q
  mu : q.length + neg o < f
  fle : f ≤ n + 1
  rest : bfsF l es f o q = res
theorem PathM.q24 {w : World} {g n : Nat} {l : List (Int × Int)} {es : List Int} {to : Int} {res : List Int} {f : Nat} {o : List Int} {a : Int} {q : List Int} {v : Value} {wr : World} (h : PathM w g n l es to res f o (a :: q) v wr) (hn : n ≤ 24) : q.length ≤ 24 := by
  have h1 := h.mu
  have h2 := h.fle
  simp only [List.length_cons] at h1
  omega
structure PathI (w : World) (g n : Nat) (l : List (Int × Int)) (es : List Int) (to a : Int) (res : List Int × List Int) (mu j : Nat) (o q : List Int) (v : Value) (wr : World) : Prop where
  nums : Nums w g n o wr
  row : Row wr (g + 1) 3 1 v q.length (q.map I)
  mid : FarMid n l es to a (es.drop j) o q
  hmu : q.length + neg o = mu
  hj : j ≤ es.length
  rest : scanF l a (es.drop j) o q = res

section
variable {w : World} {g n : Nat} {l : List (Int × Int)} {es : List Int} {to a : Int} {res : List Int × List Int} {mu j : Nat} {o q : List Int} {v : Value} {wr : World}
theorem dropI_at {es : List Int} {j : Nat} (hj : j < es.length) : es.drop j = es[j] :: es.drop (j + 1) := by rw [List.drop_eq_getElem_cons hj]
theorem PathI.skip (h : PathI w g n l es to a res mu j o q v wr) (hj : j < es.length) (ob : Obj) (hs : inc l a es[j] = false) : PathI w g n l es to a res mu (j + 1) o q v (wr.alloc ob) := by
  have hm := h.mid
  have hr := h.rest
  rw [dropI_at hj] at hm hr
  exact ⟨h.nums.alloc _, h.row.alloc _, hm.skip (by simp [hs]), h.hmu, hj, by rw [scanF_skip hs] at hr; exact hr⟩
theorem PathI.old (h : PathI w g n l es to a res mu j o q v wr) (hj : j < es.length) (ob : Obj) (hs : inc l a es[j] = true) (h2 : ¬ o.getD (nxt l a es[j]).toNat 0 < 0) : PathI w g n l es to a res mu (j + 1) o q v (wr.alloc ob) := by
  have hm := h.mid
  have hr := h.rest
  rw [dropI_at hj] at hm hr
  exact ⟨h.nums.alloc _, h.row.alloc _, hm.skip (fun _ => by unfold at_; omega), h.hmu, hj, by rw [scanF_old hs h2] at hr; exact hr⟩
theorem PathI.new (h : PathI w g n l es to a res mu j o q v wr) (hv : Valid n l) (hes : Within l es) (hto : 0 ≤ to ∧ to < n) (hj : j < es.length) (hs : inc l a es[j] = true) (h2 : o.getD (nxt l a es[j]).toNat 0 < 0) (hg : w.heap.size ≤ g)
    {wx w2 : World} {v2 : Value} (hwx : Nums w g n (o.set (nxt l a es[j]).toNat (o.getD a.toNat 0 + 1)) wx) (hb : Below (g + 1) wx w2) (hrow : Row w2 (g + 1) 3 1 v2 (q.length + 1) (q.map I ++ [I (nxt l a es[j])])) :
    PathI w g n l es to a res mu (j + 1) (o.set (nxt l a es[j]).toNat (o.getD a.toNat 0 + 1)) (q ++ [nxt l a es[j]]) v2 w2 := by
  have hm := h.mid
  have hr := h.rest
  rw [dropI_at hj] at hm hr
  have hmem : es[j] ∈ es := List.getElem_mem hj
  obtain ⟨k0, k1⟩ := hes _ hmem
  obtain ⟨t0, t1⟩ := nxt_ok hv k0 k1 hs
  refine ⟨hwx.step hb hg, by simpa using hrow, hm.step hv hes hmem hto hs h2, ?_, hj, by rw [scanF_new hs h2] at hr; exact hr⟩
  have h1 := h.hmu
  have ha := hm.ha.2.2
  have h3 := neg_set (o := o) (i := (nxt l a es[j]).toNat) (m := o.getD a.toNat 0 + 1) (by rw [h.nums.len]; omega) (by unfold at_ at ha; omega) h2
  simp at h3 ⊢; omega
end

/-- on the way back: the ways found so far -/
structure PathB (w : World) (g n : Nat) (l : List (Int × Int)) (es far : List Int) (to : Int) (res : List Int) (a : Int) (out : List Int) (v : Value) (wr : World) : Prop where
  nums : Nums w g n far wr
  row : Row wr (g + 1) 3 1 v out.length (out.map I)
  ha : 0 ≤ a ∧ a < n ∧ 0 ≤ at_ far a
  rest : out ++ back l es far to ((at_ far a).toNat + 1) a = res
  few : out.length + (at_ far a).toNat ≤ n

/-- a call that returns a new slice of ints and a bool -/
def RetIntsB (w : World) (r : List Int × Bool) (e : Ending) (w' : World) : Prop := ∃ v, e = .returned (.tuple #[v, .bool r.2]) ∧ Row w' w.heap.size 3 1 v r.1.length (r.1.map I) ∧ Below w.heap.size w w'

structure PArgs (w : World) (n : Nat) (l : List (Int × Int)) (es : List Int) (a to : Int) (A EA : Option Addr) : Prop where
  reads : Reads w w.heap.size 2 A l.length (cells2 l)
  edges : Reads w w.heap.size 1 EA es.length (es.map I)
  valid : Valid n l
  within : Within l es
  hn : n ≤ 24
  hl : l.length ≤ 64
  hes : es.length ≤ 64
  ha : 0 ≤ a ∧ a < n
  hto : 0 ≤ to ∧ to < n

section
variable {w : World} {g n : Nat} {l : List (Int × Int)} {es far : List Int} {to a : Int} {res out : List Int} {v : Value} {wr : World}
/-- at another node than the goal there is an edge that leads nearer -/
theorem find_some (hinv : FarInv n l es to far []) (ha : 0 ≤ a ∧ a < n ∧ 0 ≤ at_ far a) (hne : a ≠ to) : ∃ k, es.find? (stepB l far a) = some k ∧ 0 ≤ at_ far (nxt l a k) ∧ at_ far (nxt l a k) = at_ far a - 1 ∧ inc l a k = true ∧ k ∈ es := by
  obtain ⟨k, hk, hi, p1, p2⟩ := hinv.parent a ha.1 ha.2.1 ha.2.2 hne
  cases hf : es.find? (stepB l far a) with
  | none =>
    have := List.find?_eq_none.1 hf k hk
    unfold at_ at p2
    simp [stepB, hi] at this
    simp at p2
    exact absurd p2 this
  | some k' =>
    have h1 := List.find?_some hf
    have h2 := List.mem_of_find?_eq_some hf
    simp only [stepB, Bool.and_eq_true, beq_iff_eq] at h1
    refine ⟨k', rfl, ?_, h1.2, h1.1, h2⟩
    have : at_ far (nxt l a k') = at_ far a - 1 := h1.2
    omega
theorem find_first {p : Int → Bool} {es : List Int} {k : Int} (h : es.find? p = some k) {j : Nat} (hj : j < es.length) (hb : ∀ i (hi : i < es.length), i < j → p es[i] = false) (hp : p es[j] = true) : es[j] = k := by
  induction es generalizing j with
  | nil => simp at hj
  | cons e es ih =>
    cases j with
    | zero =>
      simp at hp ⊢
      rw [List.find?_cons_of_pos hp] at h
      injection h
    | succ j =>
      have h0 := hb 0 (by simp) (by omega)
      simp at h0
      rw [List.find?_cons_of_neg (by simp [h0])] at h
      simp at hp ⊢
      exact ih h (by simpa using hj) (fun i hi hij => by have := hb (i + 1) (by simpa using hi) (by omega); simpa using this) hp
theorem find_none {p : Int → Bool} {es : List Int} {k : Int} (h : es.find? p = some k) (hb : ∀ i (hi : i < es.length), p es[i] = false) : False := by
  have h1 := List.find?_some h
  have h2 := List.mem_of_find?_eq_some h
  obtain ⟨i, hi, e⟩ := List.getElem_of_mem h2
  have := hb i hi
  rw [e, h1] at this
  cases this
end

theorem nums_start {w w1 : World} {n : Nat} {o : Obj} (hblk : Blk w1 (w.alloc o).heap.size 3 (Array.replicate n (I (-1)))) (hbw : Below (w.alloc o).heap.size (w.alloc o) w1) : Nums w (w.heap.size + 1) n (List.replicate n (-1)) w1 := by
  refine ⟨by simp, ?_, ?_⟩
  · rw [List.map_replicate, List.toArray_replicate]; simpa using hblk
  · have := hbw.mono (B' := w.heap.size) (by simp)
    exact ((Below.refl _ w).alloc (Nat.le_refl _) _).trans this

/-- the inner loop of the way back: no edge before j leads nearer -/
structure PathC (w : World) (g n : Nat) (l : List (Int × Int)) (es far : List Int) (to : Int) (res : List Int) (a : Int) (out : List Int) (v : Value) (j : Nat) (wr : World) : Prop where
  b : PathB w g n l es far to res a out v wr
  hj : j ≤ es.length
  no : ∀ i (hi : i < es.length), i < j → stepB l far a es[i] = false
theorem PathB.world {w : World} {g n : Nat} {l : List (Int × Int)} {es far : List Int} {to : Int} {res : List Int} {a : Int} {out : List Int} {v : Value} {wr w2 : World} (h : PathB w g n l es far to res a out v wr) (hb : Below wr.heap.size wr w2) : PathB w g n l es far to res a out v w2 :=
  ⟨⟨h.nums.len, h.nums.blk.below hb h.nums.blk.lt, h.nums.below.trans (hb.mono h.nums.below.size)⟩, h.row.call hb, h.ha, h.rest, h.few⟩
theorem PathC.next {w : World} {g n : Nat} {l : List (Int × Int)} {es far : List Int} {to : Int} {res : List Int} {a : Int} {out : List Int} {v : Value} {j : Nat} {wr w2 : World} (h : PathC w g n l es far to res a out v j wr) (hj : j < es.length) (hs : stepB l far a es[j] = false) (hb : Below wr.heap.size wr w2) : PathC w g n l es far to res a out v (j + 1) w2 := by
  refine ⟨h.b.world hb, hj, fun i hi hij => ?_⟩
  by_cases e : i = j
  · subst e; exact hs
  · exact h.no i hi (by omega)
theorem PathC.take {w : World} {g n : Nat} {l : List (Int × Int)} {es far : List Int} {to : Int} {res : List Int} {a : Int} {out : List Int} {v : Value} {j : Nat} {wr w2 : World} (h : PathC w g n l es far to res a out v j wr) (hv : Valid n l) (hes : Within l es) (hinv : FarInv n l es to far []) (hne : a ≠ to) (hj : j < es.length) (hs : stepB l far a es[j] = true) (hg : w.heap.size ≤ g)
    {wx : World} {v2 : Value} (hbx : Below wr.heap.size wr wx) (hb : Below (g + 1) wx w2) (hrow : Row w2 (g + 1) 3 1 v2 (out.length + 1) (out.map I ++ [I es[j]])) :
    PathB w g n l es far to res (nxt l a es[j]) (out ++ [es[j]]) v2 w2 ∧ (at_ far (nxt l a es[j])).toNat + 1 < (at_ far a).toNat + 1 := by
  obtain ⟨k, hf, p1, p2, hi, hk⟩ := find_some hinv h.b.ha hne
  have hjk := find_first hf hj h.no hs
  rw [hjk] at hrow ⊢
  obtain ⟨k0, k1⟩ := hes k hk
  obtain ⟨t0, t1⟩ := nxt_ok hv k0 k1 hi
  have hx := (h.b.world hbx).nums
  have ha := h.b.ha
  have hfew := h.b.few
  refine ⟨⟨hx.step hb hg, by simpa using hrow, ⟨t0, t1, p1⟩, ?_, ?_⟩, by omega⟩
  · have := h.b.rest
    rw [back, if_neg hne, hf] at this
    simp only at this
    rw [List.append_assoc, List.singleton_append, show (at_ far (nxt l a k)).toNat + 1 = (at_ far a).toNat by omega]
    exact this
  · simp; omega

set_option maxRecDepth 100000 in
set_option maxHeartbeats 1000000 in
theorem path_any (n : Nat) (l : List (Int × Int)) (es : List Int) (fr to : Int) (A EA : Option Addr) (c ec : Nat) (w : World) (hP : PArgs w n l es fr to A EA) :
    Calls Try.prog 36 #[I n, .slice A l.length c, .slice EA es.length ec, I fr, I to] w (RetIntsB w (pathL n l es fr to)) := by
  obtain ⟨ha0, ha1⟩ := hP.ha
  obtain ⟨hto0, hto1⟩ := hP.hto
  have hn := hP.hn
  have hl := hP.hl
  have hes := hP.hes
  go_enter Try.func36, Try.ntmps36
  go_wp2_with (go_at_call 61; refine (repeat_any (-1) n w.heap.size 0 1 _ (by simp) (by simp) (by omega)).mono ?_; rintro e w1 ⟨rfl, hblk, hbw⟩; have HN0 := nums_start hblk hbw; have hc0 := HN0.cell (i := to.toNat) (by omega); have hf0 := HN0.blk.frozen to.toNat; clear hblk hbw)
  have HM : PathM w (w.heap.size + 1) n l es to (farL n l es to) (n + 1) ((List.replicate n (-1)).set to.toNat 0) [to] (.slice (some ⟨w1.heap.size, 0, none⟩) 1 1) ((w1.setCell ⟨w.heap.size + 1, to.toNat, none⟩ (Value.int IntKind.i64 0)).alloc (Obj.cells #[I to] 3)) := by
    have hset := HN0.set to.toNat 0 (by omega)
    have hlt2 := hset.blk.lt
    refine ⟨hset.alloc _, ?_, far_start hto0 hto1, ?_, Nat.le_refl _, rfl⟩
    · have := Row.one (w1.setCell ⟨w.heap.size + 1, to.toNat, none⟩ (Value.int IntKind.i64 0)) (w.heap.size + 2) 3 (I to) hlt2
      simpa using this
    · have := far_start_neg hto0 hto1; simp; omega
  clear hc0 hf0 HN0
  obtain ⟨far, hfar⟩ : ∃ far, farL n l es to = far := ⟨_, rfl⟩
  rw [hfar] at HM
  have HFAR := Lib.hid hfar
  clear hfar
  go_loopg [13] (n + 1) (fun f v wr => ∃ (o q : List Int), PathM w (w.heap.size + 1) n l es to far f o q v wr)
  case atStart => exact ⟨_, _, HM⟩
  case round =>
    clear HM
    obtain ⟨o1, q, hM⟩ := hrel
    obtain ⟨wb, rfl⟩ : ∃ wb : World, wb = wr := ⟨_, rfl⟩
    cases q with
    | nil =>
      obtain ⟨A1, c1, rfl⟩ := hM.row.val
      obtain rfl : o1 = far := by
        have h1 := hM.rest
        have h2 := hM.mu
        obtain ⟨f, rfl⟩ : ∃ f, gk = f + 1 := ⟨gk - 1, by omega⟩
        rw [bfsF] at h1
        exact h1
      have hnums := hM.nums
      have hinv := hM.far
      clear hM
      simp only [List.length_nil]
      have hcf := hnums.cell (i := fr.toNat) (by omega)
      by_cases hneg : o1.getD fr.toNat 0 < 0
      · have HR : Hid (pathL n l es fr to = ([], false)) := by rw [pathL, HFAR.out, if_pos hneg]; exact rfl
        obtain ⟨ofr, hofr⟩ : ∃ ofr, o1.getD fr.toNat 0 = ofr := ⟨_, rfl⟩
        rw [hofr] at hcf hneg
        clear hofr
        go_wp2
        go_ret2
        rw [HR.out]
        exact ⟨_, rfl, Row.nil _ _ _ _, hnums.below⟩
      · have HR : Hid (pathL n l es fr to = (back l es o1 to ((o1.getD fr.toNat 0).toNat + 1) fr, true)) := by rw [pathL, HFAR.out, if_neg hneg]; exact rfl
        have HB : PathB w (w.heap.size + 1) n l es o1 to (back l es o1 to ((o1.getD fr.toNat 0).toNat + 1) fr) fr [] (.slice none 0 0) wb := by
          have h0 : 0 ≤ at_ o1 fr := by unfold at_; omega
          have h1 := hinv.bound fr ha0 ha1
          exact ⟨hnums, Row.nil _ _ _ _, ⟨ha0, ha1, h0⟩, by unfold at_; rfl, by simp; omega⟩
        obtain ⟨res, hres⟩ : ∃ res, back l es o1 to ((o1.getD fr.toNat 0).toNat + 1) fr = res := ⟨_, rfl⟩
        rw [hres] at HB HR
        obtain ⟨ofr, hofr⟩ : ∃ ofr, o1.getD fr.toNat 0 = ofr := ⟨_, rfl⟩
        rw [hofr] at hcf hneg
        clear hofr hres
        have HINV := Lib.hid hinv
        clear hinv
        go_wp2
        go_loopg [19, 20] ((at_ o1 fr).toNat + 1) (fun r v19 v20 wr => ∃ (a : Int) (out : List Int), r = (at_ o1 a).toNat + 1 ∧ v20 = I a ∧ PathB w (w.heap.size + 1) n l es o1 to res a out v19 wr)
        case atStart => exact ⟨fr, [], rfl, rfl, HB⟩
        case round =>
          clear HB hnums hcf hneg
          obtain ⟨a, out, rfl, rfl, hB⟩ := hrel
          obtain ⟨wc, rfl⟩ : ∃ wc : World, wc = wr := ⟨_, rfl⟩
          by_cases hat : a = to
          · have HF : Hid (out = res) := by have := hB.rest; rw [back, if_pos hat, List.append_nil] at this; exact this
            have t1 : (a != to) = false := by simpa using hat
            clear hat
            go_wp2
            go_ret2
            rw [HR.out, ← HF.out]
            exact ⟨_, rfl, hB.row.less (by omega), hB.nums.below⟩
          · have HNE := Lib.hid hat
            have t1 : (a != to) = true := by simpa using hat
            clear hat
            obtain ⟨haa0, haa1, haa2⟩ := hB.ha
            obtain ⟨kf, hkf, _, _, _, _⟩ := find_some HINV.out hB.ha HNE.out
            have HKF := Lib.hid hkf
            clear hkf
            have HC0 : PathC w (w.heap.size + 1) n l es o1 to res a out u19 0 wc := ⟨hB, by omega, fun i hi h => by omega⟩
            have hfew : out.length ≤ 1000000 := by have := hB.few; omega
            clear hB
            go_wp2
            go_loopg [19, 20, 97] (es.length - 0) (fun r v19 v20 v97 wr => ∃ (j : Nat), r = es.length - j ∧ v97 = I j ∧ v20 = I a ∧ PathC w (w.heap.size + 1) n l es o1 to res a out v19 j wr)
            case atStart => exact ⟨0, rfl, rfl, rfl, HC0⟩
            case round =>
              clear HC0
              obtain ⟨j, rfl, rfl, rfl, hC⟩ := hrel
              have hj := hC.hj
              by_cases hjl : j < es.length
              · obtain ⟨b1, off1, u1, rfl, hb1, hu1, hk1⟩ := (hP.edges.below hC.b.nums.below).at1 hjl
                obtain ⟨kv, hkv⟩ : ∃ kv, es[j] = kv := ⟨_, rfl⟩
                obtain rfl : u1 = I kv := by simp [hjl, hkv] at hu1; exact hu1.symm
                clear hu1
                obtain ⟨hkv0, hkv1⟩ := hP.within kv (by rw [← hkv]; exact List.getElem_mem hjl)
                have hkn : kv.toNat < l.length := by omega
                obtain ⟨b, off, rfl, hbl, hx0, hx1⟩ := reads2_at (hP.reads.below hC.b.nums.below) hkn
                have hval := hP.valid l[kv.toNat] (List.getElem_mem hkn)
                have hgl := hC.b.nums.blk.lt
                obtain ⟨y1, hy1⟩ : ∃ y, l[kv.toNat].1 = y := ⟨_, rfl⟩
                obtain ⟨y2, hy2⟩ : ∃ y, l[kv.toNat].2 = y := ⟨_, rfl⟩
                rw [hy1] at hx0 hval
                rw [hy2] at hx1 hval
                obtain ⟨hva, hvb, hvc, hvd⟩ := hval
                have HK := Lib.hid hkv
                have HE := Lib.hid (show (edgeAt l kv).1 = y1 ∧ (edgeAt l kv).2 = y2 by
                  have e : edgeAt l kv = l[kv.toNat] := by simp [edgeAt, hkn]
                  rw [e]; exact ⟨hy1, hy2⟩)
                clear hy1 hy2 hkv
                by_cases hinc : y1 = a ∨ y2 = a
                · have HIN : Hid (inc l a es[j] = true) := by rw [HK.out, inc_iff, HE.out.1, HE.out.2]; exact hinc
                  have HNX : Hid (nxt l a es[j] = y1 + y2 - a) := by rw [HK.out, nxt, HE.out.1, HE.out.2]; exact rfl
                  have ht0 : 0 ≤ y1 + y2 - a := by omega
                  have ht1 : y1 + y2 - a < n := by omega
                  have hc := hC.b.nums.cell (i := (y1 + y2 - a).toNat) (by omega)
                  have hca := hC.b.nums.cell (i := a.toNat) (by omega)
                  have hab : 0 ≤ o1.getD a.toNat 0 ∧ o1.getD a.toNat 0 ≤ 24 := by
                    have h2 := HINV.out.bound a haa0 haa1
                    unfold at_ at haa2 h2
                    omega
                  have h4 : y1 = a ∨ (y1 ≠ a ∧ y2 = a) := by omega
                  clear hinc
                  obtain ⟨ot, hot⟩ : ∃ ot, o1.getD (y1 + y2 - a).toNat 0 = ot := ⟨_, rfl⟩
                  obtain ⟨oa, hoa⟩ : ∃ oa, o1.getD a.toNat 0 = oa := ⟨_, rfl⟩
                  have HST := Lib.hid (show stepB l o1 a es[j] = (ot == oa - 1) by rw [stepB, HIN.out, HNX.out, hot, hoa]; simp)
                  rw [hot] at hc
                  rw [hoa] at hca hab
                  obtain ⟨hab0, hab1⟩ := hab
                  clear hot hoa
                  have hmem : es[j] = kv := HK.out
                  have HM2 := Lib.hid hmem
                  clear hmem
                  rcases h4 with h4 | ⟨h4, h5⟩
                  · have t2 : (y1 != a) = false := by simpa using h4
                    clear h4
                    cases hst : (ot == oa - 1)
                    · rw [hst] at HST
                      go_wp2
                      go_quiet (fail)
                      go_wp2
                      go_roundg (es.length - (j + 1))
                      case measure => omega
                      case rel => exact ⟨j + 1, rfl, by go_num, rfl, hC.next hjl HST.out (below_drewN ((Below.refl _ _).alloc (Nat.le_refl _) _) _)⟩
                    · rw [hst] at HST
                      go_wp2
                      go_quiet (fail)
                      go_wp2_with (at_builtin; refine wpList_app28 rfl _ _ rfl (w.heap.size + 2) u19 out kv (wr.heap.size + 1) (by simp) (by rfl) (by rfl) (hC.b.row.call (below_drewN ((Below.refl _ _).alloc (Nat.le_refl _) _) _)) hfew (by simp; omega) ?_; intro v2 w2 hrow2 hb2)
                      obtain ⟨hB2, hm2⟩ := hC.take hP.valid hP.within HINV.out HNE.out hjl HST.out (by omega) (below_drewN ((Below.refl _ _).alloc (Nat.le_refl _) _) _) (((Below.refl _ _).alloc (by simp; omega) _).trans hb2) (by rw [HM2.out]; exact hrow2)
                      go_roundg ((at_ o1 (nxt l a es[j])).toNat + 1)
                      case measure => exact hm2
                      case rel => exact ⟨nxt l a es[j], _, rfl, by rw [HNX.out], hB2⟩
                  · have t2 : (y1 != a) = true := by simpa using h4
                    have t3 : (y2 != a) = false := by simpa using h5
                    clear h4 h5
                    cases hst : (ot == oa - 1)
                    · rw [hst] at HST
                      go_wp2
                      go_quiet (fail)
                      go_wp2
                      go_roundg (es.length - (j + 1))
                      case measure => omega
                      case rel => exact ⟨j + 1, rfl, by go_num, rfl, hC.next hjl HST.out (below_drewN ((Below.refl _ _).alloc (Nat.le_refl _) _) _)⟩
                    · rw [hst] at HST
                      go_wp2
                      go_quiet (fail)
                      go_wp2_with (at_builtin; refine wpList_app28 rfl _ _ rfl (w.heap.size + 2) u19 out kv (wr.heap.size + 1) (by simp) (by rfl) (by rfl) (hC.b.row.call (below_drewN ((Below.refl _ _).alloc (Nat.le_refl _) _) _)) hfew (by simp; omega) ?_; intro v2 w2 hrow2 hb2)
                      obtain ⟨hB2, hm2⟩ := hC.take hP.valid hP.within HINV.out HNE.out hjl HST.out (by omega) (below_drewN ((Below.refl _ _).alloc (Nat.le_refl _) _) _) (((Below.refl _ _).alloc (by simp; omega) _).trans hb2) (by rw [HM2.out]; exact hrow2)
                      go_roundg ((at_ o1 (nxt l a es[j])).toNat + 1)
                      case measure => exact hm2
                      case rel => exact ⟨nxt l a es[j], _, rfl, by rw [HNX.out], hB2⟩
                · have HIN := Lib.hid (show inc l a es[j] = false by
                    have : ¬ inc l a es[j] = true := by rw [HK.out, inc_iff, HE.out.1, HE.out.2]; exact hinc
                    simpa using this)
                  have t2 : (y1 != a) = true := by simp; omega
                  have t3 : (y2 != a) = true := by simp; omega
                  clear hinc
                  go_wp2
                  go_roundg (es.length - (j + 1))
                  case measure => omega
                  case rel => exact ⟨j + 1, rfl, by go_num, rfl, hC.next hjl (by rw [stepB, HIN.out]; rfl) ((Below.refl _ _).alloc (Nat.le_refl _) _)⟩
              · exact (find_none HKF.out (fun i hi => hC.no i hi (by omega))).elim
    | cons a q =>
      obtain ⟨g2, off2, cap2, rfl, hg2, hg3, hc2, hrow2⟩ := hM.row.pop
      have hq := hM.far.inq a (by simp)
      have hcut := run_cut (P := Try.prog) Try.underlying28 Try.sizeOf3 (some ⟨g2, off2, none⟩) (q.length + 1) cap2 1 (by omega) (by omega)
      obtain ⟨v2, hv2⟩ : ∃ v2, sliced (some ⟨g2, off2, none⟩) 1 (q.length + 1) cap2 1 = v2 := ⟨_, rfl⟩
      simp only [Int.toNat_one] at hcut
      rw [hv2] at hcut hrow2
      clear hv2
      have hq25 : q.length ≤ 24 := hM.q24 hn
      go_wp2
      obtain ⟨f, rfl⟩ : ∃ f, gk = f + 1 := ⟨gk - 1, by have := hM.mu; omega⟩
      have HI : PathI w (w.heap.size + 1) n l es to a (scanF l a es o1 q) (q.length + neg o1) 0 o1 q v2 wb :=
        ⟨hM.nums, hrow2, by simpa using hM.far.open_, rfl, by omega, by simp⟩
      have HJ := Lib.hid (show q.length + neg o1 < f ∧ f + 1 ≤ n + 1 ∧ bfsF l es f (scanF l a es o1 q).1 (scanF l a es o1 q).2 = far by
        have h1 := hM.mu
        have h2 := hM.fle
        have h3 := hM.rest
        rw [bfsF] at h3
        simp only [List.length_cons] at h1
        exact ⟨by omega, by omega, h3⟩)
      obtain ⟨pr, hpr⟩ : ∃ pr, scanF l a es o1 q = pr := ⟨_, rfl⟩
      obtain ⟨mu, hmu⟩ : ∃ mu, q.length + neg o1 = mu := ⟨_, rfl⟩
      rw [hpr] at HI HJ
      rw [hmu] at HI HJ
      clear hpr hmu hM hcut hrow2 hc2 hg2 hg3
      obtain ⟨haa0, haa1, haa2⟩ := hq
      have HM25 := Lib.hid (show mu ≤ 24 by have := HJ.out; omega)
      go_loopg [13, 43] (es.length - 0) (fun r v13 v43 wr => ∃ (j : Nat) (o q : List Int), r = es.length - j ∧ v43 = I j ∧ PathI w (w.heap.size + 1) n l es to a pr mu j o q v13 wr)
      case atStart => exact ⟨0, _, _, rfl, rfl, HI⟩
      case round =>
        clear HI
        obtain ⟨j, o2, q2, rfl, rfl, hI⟩ := hrel
        have hj := hI.hj
        by_cases hjl : j < es.length
        · obtain ⟨b1, off1, u1, rfl, hb1, hu1, hk1⟩ := (hP.edges.below hI.nums.below).at1 hjl
          obtain ⟨kv, hkv⟩ : ∃ kv, es[j] = kv := ⟨_, rfl⟩
          obtain rfl : u1 = I kv := by simp [hjl, hkv] at hu1; exact hu1.symm
          clear hu1
          obtain ⟨hkv0, hkv1⟩ := hP.within kv (by rw [← hkv]; exact List.getElem_mem hjl)
          have hkn : kv.toNat < l.length := by omega
          obtain ⟨b, off, rfl, hbl, hx0, hx1⟩ := reads2_at (hP.reads.below hI.nums.below) hkn
          have hval := hP.valid l[kv.toNat] (List.getElem_mem hkn)
          have hgl := hI.nums.blk.lt
          obtain ⟨y1, hy1⟩ : ∃ y, l[kv.toNat].1 = y := ⟨_, rfl⟩
          obtain ⟨y2, hy2⟩ : ∃ y, l[kv.toNat].2 = y := ⟨_, rfl⟩
          rw [hy1] at hx0 hval
          rw [hy2] at hx1 hval
          obtain ⟨hva, hvb, hvc, hvd⟩ := hval
          have HK := Lib.hid hkv
          have HE := Lib.hid (show (edgeAt l kv).1 = y1 ∧ (edgeAt l kv).2 = y2 by
            have e : edgeAt l kv = l[kv.toNat] := by simp [edgeAt, hkn]
            rw [e]; exact ⟨hy1, hy2⟩)
          clear hy1 hy2 hkv
          by_cases hinc : y1 = a ∨ y2 = a
          · have HIN : Hid (inc l a es[j] = true) := by rw [HK.out, inc_iff, HE.out.1, HE.out.2]; exact hinc
            have HNX : Hid (nxt l a es[j] = y1 + y2 - a) := by rw [HK.out, nxt, HE.out.1, HE.out.2]; exact rfl
            have ht0 : 0 ≤ y1 + y2 - a := by omega
            have ht1 : y1 + y2 - a < n := by omega
            have hc := hI.nums.cell (i := (y1 + y2 - a).toNat) (by omega)
            have hca := hI.nums.cell (i := a.toNat) (by omega)
            have hf : wr.frozen? ⟨w.heap.size + 1, (y1 + y2 - a).toNat, none⟩ = false := hI.nums.blk.frozen _
            have hq1 : q2.length ≤ 1000000 := by have := hI.hmu; have := HM25.out; omega
            have hab : 0 ≤ o2.getD a.toNat 0 ∧ o2.getD a.toNat 0 ≤ 24 := by
              have h1 := hI.mid.ha.2.2
              have h2 := hI.mid.bound a haa0 haa1
              unfold at_ at h1 h2
              omega
            have h4 : y1 = a ∨ (y1 ≠ a ∧ y2 = a) := by omega
            clear hinc
            by_cases hneg : o2.getD (y1 + y2 - a).toNat 0 < 0
            · have HN := Lib.hid hneg
              obtain ⟨ot, hot⟩ : ∃ ot, o2.getD (y1 + y2 - a).toNat 0 = ot := ⟨_, rfl⟩
              rw [hot] at hc hneg
              obtain ⟨oa, hoa⟩ : ∃ oa, o2.getD a.toNat 0 = oa := ⟨_, rfl⟩
              rw [hoa] at hca hab
              obtain ⟨hab0, hab1⟩ := hab
              have HOA := Lib.hid hoa
              clear hot hoa
              rcases h4 with h4 | ⟨h4, h5⟩
              · have t2 : (y1 == a) = true := by simpa using h4
                clear h4
                go_wp2_with (at_builtin; refine wpList_app28 rfl _ _ rfl (w.heap.size + 2) u13 q2 (y1 + y2 - a) (wr.heap.size + 1) (by simp) (by rfl) (by rfl) ((hI.row.setCell (by simp) _).alloc _) hq1 (by simp; omega) ?_; intro v2 w2 hrow2 hb2)
                go_roundg (es.length - (j + 1))
                case measure => omega
                case rel => exact ⟨j + 1, _, _, rfl, by go_num, hI.new hP.valid hP.within hP.hto hjl HIN.out (by rw [HNX.out]; exact HN.out) (by omega) (by rw [HNX.out, HOA.out]; exact ((hI.nums.set _ _ (by omega)).alloc _).alloc _) hb2 (by rw [HNX.out]; exact hrow2)⟩
              · have t2 : (y1 == a) = false := by simpa using h4
                have t3 : (y2 == a) = true := by simpa using h5
                clear h4 h5
                go_wp2_with (at_builtin; refine wpList_app28 rfl _ _ rfl (w.heap.size + 2) u13 q2 (y1 + y2 - a) (wr.heap.size + 1) (by simp) (by rfl) (by rfl) ((hI.row.setCell (by simp) _).alloc _) hq1 (by simp; omega) ?_; intro v2 w2 hrow2 hb2)
                go_roundg (es.length - (j + 1))
                case measure => omega
                case rel => exact ⟨j + 1, _, _, rfl, by go_num, hI.new hP.valid hP.within hP.hto hjl HIN.out (by rw [HNX.out]; exact HN.out) (by omega) (by rw [HNX.out, HOA.out]; exact ((hI.nums.set _ _ (by omega)).alloc _).alloc _) hb2 (by rw [HNX.out]; exact hrow2)⟩
            · have HN := Lib.hid hneg
              obtain ⟨ot, hot⟩ : ∃ ot, o2.getD (y1 + y2 - a).toNat 0 = ot := ⟨_, rfl⟩
              rw [hot] at hc hneg
              clear hot hca hab
              rcases h4 with h4 | ⟨h4, h5⟩
              · have t2 : (y1 == a) = true := by simpa using h4
                clear h4
                go_wp2
                go_roundg (es.length - (j + 1))
                case measure => omega
                case rel => exact ⟨j + 1, o2, q2, rfl, by go_num, hI.old hjl _ HIN.out (by rw [HNX.out]; have := HN.out; omega)⟩
              · have t2 : (y1 == a) = false := by simpa using h4
                have t3 : (y2 == a) = true := by simpa using h5
                clear h4 h5
                go_wp2
                go_roundg (es.length - (j + 1))
                case measure => omega
                case rel => exact ⟨j + 1, o2, q2, rfl, by go_num, hI.old hjl _ HIN.out (by rw [HNX.out]; have := HN.out; omega)⟩
          · have HIN := Lib.hid (show inc l a es[j] = false by
              have : ¬ inc l a es[j] = true := by rw [HK.out, inc_iff, HE.out.1, HE.out.2]; exact hinc
              simpa using this)
            have t2 : (y1 == a) = false := by simp; omega
            have t3 : (y2 == a) = false := by simp; omega
            clear hinc
            go_wp2
            go_roundg (es.length - (j + 1))
            case measure => omega
            case rel => exact ⟨j + 1, o2, q2, rfl, by go_num, hI.skip hjl _ HIN.out⟩
        · obtain rfl : j = es.length := by omega
          have HF : PathM w (w.heap.size + 1) n l es to far f o2 q2 u13 wr := by
            have h1 := hI.rest
            have h5 := hI.mid
            rw [List.drop_of_length_le (Nat.le_refl _)] at h1 h5
            rw [scanF] at h1
            have h2 := HJ.out
            rw [← h1] at h2
            exact ⟨hI.nums, hI.row, h5.close hP.valid hP.within, by have := hI.hmu; omega, by omega, h2.2.2⟩
          clear hI HJ
          go_wp2
          go_roundg f
          case measure => omega
          case rel => exact ⟨o2, q2, HF⟩
end Go.Proofs.Ytphiiflcpeploaa
