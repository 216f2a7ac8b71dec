/-
  The reader's item: a key, or an object, behind a message's others.
-/
import Derived.Test.YthlajcohbpjgkaaDoorMRdr
import Derived.Deep.AppendLies
namespace Go.Proofs.YthlajcohbpjgkaaDoor
open Go.RowKit Go.Shelf Go.Proofs.Mem
set_option linter.unusedVariables false

theorem info_str : (Tryd.prog.info? 9).map (fun i => (i.zero, i.size, i.bytes)) = some (some (.string ⟨#[]⟩), 1, 16) := by kernel_rfl
theorem info_obj : (Tryd.prog.info? 40).map (fun i => (i.zero, i.size, i.bytes)) = some (some (.agg #[.string ⟨#[]⟩, .string ⟨#[]⟩]), 2, 32) := by kernel_rfl
theorem own_apart {w : World} {B b n size : Nat} {e T : TypeId} {v : Value} {xs : List Value} {cs : Array Value} {fr : Nat × Nat} (h : w.ownsRow B e size v n xs) (hb : w.heap[b]? = some (.cells cs T fr)) (hT : T ≠ e) : v.ownBlock ≠ some b := by
  intro eq
  rcases h.2 with ⟨rfl, _⟩ | ⟨g, cap, cur, rfl, _, hg, _⟩
  · simp [Value.ownBlock] at eq
  · simp only [Value.ownBlock, Option.some.injEq] at eq
    subst eq
    rw [hg] at hb
    injection hb with hb
    injection hb with _ hb
    exact hT hb.symm
theorem own_two {w : World} {B n m s1 s2 : Nat} {e1 e2 : TypeId} {u v : Value} {xs ys : List Value} (h : w.ownsRow B e1 s1 u n xs) (k : w.ownsRow B e2 s2 v m ys) (he : e1 ≠ e2) : v.ownBlock = none ∨ v.ownBlock ≠ u.ownBlock := by
  rcases k.2 with ⟨rfl, _⟩ | ⟨g, cap, cur, rfl, _, hg, _⟩
  · exact .inl rfl
  · exact .inr (fun e => own_apart h hg he.symm e.symm)
/-- A message's block: its kind, its keys, its objects, whose rows the call owns. -/
structure MgP (w : World) (B mb : Nat) (k : Int) (kv ov : Value) (ks : List ByteArray) (os : List ObjL) : Prop where
  hB : B ≤ mb
  blk : w.heap[mb]? = some (.cells #[.int .i64 k, .string ⟨#[]⟩, .string ⟨#[]⟩, kv, ov, .int .i64 0] 26 (0, 0))
  ko : w.ownsRow B 9 1 kv ks.length (ks.map .string)
  oo : w.ownsRow B 40 2 ov os.length (cellsO os)
theorem MgP.lt {w : World} {B mb : Nat} {k : Int} {kv ov : Value} {ks : List ByteArray} {os : List ObjL} (h : MgP w B mb k kv ov ks os) : mb < w.heap.size := (Array.getElem?_eq_some_iff.1 h.blk).1
theorem MgP.cell {w : World} {B mb : Nat} {k : Int} {kv ov : Value} {ks : List ByteArray} {os : List ObjL} (h : MgP w B mb k kv ov ks os) :
    w.cell? ⟨mb, 0, none⟩ = some (.int .i64 k) ∧ w.cell? ⟨mb, 1, none⟩ = some (.string ⟨#[]⟩) ∧ w.cell? ⟨mb, 2, none⟩ = some (.string ⟨#[]⟩) ∧ w.cell? ⟨mb, 3, none⟩ = some kv ∧ w.cell? ⟨mb, 4, none⟩ = some ov ∧ w.cell? ⟨mb, 5, none⟩ = some (.int .i64 0) ∧ ∀ o, w.frozen? ⟨mb, o, none⟩ = false := by
  refine ⟨?_, ?_, ?_, ?_, ?_, ?_, fun o => Lib.frozen_of_heap h.blk o⟩
  all_goals (rw [Lib.cell_of_heap h.blk]; rfl)
theorem MgP.grown {w w' : World} {B mb : Nat} {k : Int} {kv ov : Value} {ks : List ByteArray} {os : List ObjL} {row : Option Nat} (h : MgP w B mb k kv ov ks os) (hg : w.grownBy w' row) (h1 : some mb ≠ row) (h2 : kv.ownBlock = none ∨ kv.ownBlock ≠ row) (h3 : ov.ownBlock = none ∨ ov.ownBlock ≠ row) : MgP w' B mb k kv ov ks os :=
  ⟨h.hB, (hg.block mb h.lt h1).trans h.blk, h.ko.kept hg h2, h.oo.kept hg h3⟩
theorem MgP.on {w w' : World} {B mb : Nat} {k : Int} {kv ov : Value} {ks : List ByteArray} {os : List ObjL} (h : MgP w B mb k kv ov ks os) (hb : Below w.heap.size w w') : MgP w' B mb k kv ov ks os :=
  h.grown (row := none) (grown_below hb) (by simp) (Classical.em _) (Classical.em _)
/-- The reader has turned. -/
theorem MgP.read {w w' : World} {B mb rb : Nat} {k : Int} {kv ov : Value} {ks : List ByteArray} {os : List ObjL} {s t : ByteArray} (h : MgP w B mb k kv ov ks os) (hr : RdAt w rb s) (hg : RdS rb t w w') : MgP w' B mb k kv ov ks os := by
  have hne : mb ≠ rb := by
    rintro rfl
    have e := hr.symm.trans h.blk
    injection e with e
    injection e with _ e
    revert e
    decide
  exact h.grown hg.2 (fun e => hne (Option.some.inj e)) (.inr (own_apart h.ko hr (by decide))) (.inr (own_apart h.oo hr (by decide)))
theorem rd_below {w w' : World} {B rb : Nat} {t : ByteArray} (hB : B ≤ rb) (hBw : B ≤ w.heap.size) (h : RdS rb t w w') : Below B w w' :=
  (Below.refl B w).grown h.2 hBw (fun k e => by have := Option.some.inj e; omega)
theorem RdAt.grown {w w' : World} {rb : Nat} {s : ByteArray} {row : Option Nat} (h : RdAt w rb s) (hg : w.grownBy w' row) (h1 : some rb ≠ row) : RdAt w' rb s := (hg.block rb h.lt h1).trans h
theorem cellsO_snoc (l : List ObjL) (x : ObjL) : cellsO (l ++ [x]) = cellsO l ++ objCells x := by
  unfold cellsO
  rw [List.flatMap_append]
  simp
theorem news_cells (w : World) (l : List Value) (e : TypeId) {j : Nat} {u : Value} (hj : l[j]? = some u) : (w.alloc (.cells l.toArray e)).cell? ((⟨w.heap.size, 0, none⟩ : Addr).add j) = some u := by
  have ha : Addr.add ⟨w.heap.size, 0, none⟩ j = ⟨w.heap.size, j, none⟩ := by cases j <;> simp [Addr.add]
  rw [ha, cell_of_row _ _ j _ e (0, 0) (heap_alloc_new w _)]
  simpa using hj
/-- A key has been laid behind the others. -/
theorem mg_key {w w2 w3 : World} {B mb rb g cap : Nat} {k : Int} {kv ov : Value} {ks : List ByteArray} {os : List ObjL} {s x : ByteArray} (h : MgP w B mb k kv ov ks os) (hr : RdAt w rb s) (hBw : B ≤ w.heap.size)
    (h01 : Below w.heap.size w w2) (hg : w2.grownBy w3 kv.ownBlock) (hown : w3.ownsRow B 9 1 (.slice (some ⟨g, 0, none⟩) (ks.length + 1) cap) (ks.length + 1) (ks.map .string ++ [.string x])) :
    MgP (w3.setCell ⟨mb, 3, none⟩ (.slice (some ⟨g, 0, none⟩) (ks.length + 1) cap)) B mb k (.slice (some ⟨g, 0, none⟩) (ks.length + 1) cap) ov (ks ++ [x]) os ∧ RdAt (w3.setCell ⟨mb, 3, none⟩ (.slice (some ⟨g, 0, none⟩) (ks.length + 1) cap)) rb s ∧ Below B w (w3.setCell ⟨mb, 3, none⟩ (.slice (some ⟨g, 0, none⟩) (ks.length + 1) cap)) := by
  have h2 := h.on h01
  have hr2 := hr.on h01
  have b3 : w3.heap[mb]? = some (.cells #[.int .i64 k, .string ⟨#[]⟩, .string ⟨#[]⟩, kv, ov, .int .i64 0] 26 (0, 0)) := (hg.block mb h2.lt (own_apart h2.ko h2.blk (by decide)).symm).trans h2.blk
  have hr3 : RdAt w3 rb s := hr2.grown hg (own_apart h2.ko hr2 (by decide)).symm
  have o3 := h2.oo.kept hg (own_two h2.ko h2.oo (by decide))
  have hne : mb ≠ rb := by
    rintro rfl
    have e := hr.symm.trans h.blk
    injection e with e
    injection e with _ e
    revert e
    decide
  have hs := set_grown w3 ⟨mb, 3, none⟩ (.slice (some ⟨g, 0, none⟩) (ks.length + 1) cap)
  refine ⟨⟨h.hB, heap_setCell_same w3 mb 3 _ _ _ b3, ?_, o3.kept hs (.inr (own_apart o3 b3 (by decide)))⟩, hr3.grown hs (fun e => hne (Option.some.inj e).symm), ?_⟩
  · rw [List.length_append, List.map_append]
    exact hown.kept hs (.inr (own_apart hown b3 (by decide)))
  · refine Below.setCell (p := ⟨mb, 3, none⟩) ?_ h.hB _
    exact (h01.mono hBw).grown hg (Nat.le_trans hBw h01.size) (fun q e => (h2.ko.lt q e).1)
/-- An object has been laid behind the others. -/
theorem mg_obj {w w2 w3 : World} {B mb rb g cap : Nat} {k : Int} {kv ov : Value} {ks : List ByteArray} {os : List ObjL} {s : ByteArray} {x : ObjL} (h : MgP w B mb k kv ov ks os) (hr : RdAt w rb s) (hBw : B ≤ w.heap.size)
    (h01 : Below w.heap.size w w2) (hg : w2.grownBy w3 ov.ownBlock) (hown : w3.ownsRow B 40 2 (.slice (some ⟨g, 0, none⟩) (os.length + 1) cap) (os.length + 1) (cellsO os ++ [.string x.1, .string x.2])) :
    MgP (w3.setCell ⟨mb, 4, none⟩ (.slice (some ⟨g, 0, none⟩) (os.length + 1) cap)) B mb k kv (.slice (some ⟨g, 0, none⟩) (os.length + 1) cap) ks (os ++ [x]) ∧ RdAt (w3.setCell ⟨mb, 4, none⟩ (.slice (some ⟨g, 0, none⟩) (os.length + 1) cap)) rb s ∧ Below B w (w3.setCell ⟨mb, 4, none⟩ (.slice (some ⟨g, 0, none⟩) (os.length + 1) cap)) := by
  have h2 := h.on h01
  have hr2 := hr.on h01
  have b3 : w3.heap[mb]? = some (.cells #[.int .i64 k, .string ⟨#[]⟩, .string ⟨#[]⟩, kv, ov, .int .i64 0] 26 (0, 0)) := (hg.block mb h2.lt (own_apart h2.oo h2.blk (by decide)).symm).trans h2.blk
  have hr3 : RdAt w3 rb s := hr2.grown hg (own_apart h2.oo hr2 (by decide)).symm
  have k3 := h2.ko.kept hg (own_two h2.oo h2.ko (by decide))
  have hne : mb ≠ rb := by
    rintro rfl
    have e := hr.symm.trans h.blk
    injection e with e
    injection e with _ e
    revert e
    decide
  have hs := set_grown w3 ⟨mb, 4, none⟩ (.slice (some ⟨g, 0, none⟩) (os.length + 1) cap)
  refine ⟨⟨h.hB, heap_setCell_same w3 mb 4 _ _ _ b3, k3.kept hs (.inr (own_apart k3 b3 (by decide))), ?_⟩, hr3.grown hs (fun e => hne (Option.some.inj e).symm), ?_⟩
  · rw [List.length_append, cellsO_snoc]
    exact hown.kept hs (.inr (own_apart hown b3 (by decide)))
  · refine Below.setCell (p := ⟨mb, 4, none⟩) ?_ h.hB _
    exact (h01.mono hBw).grown hg (Nat.le_trans hBw h01.size) (fun q e => (h2.oo.lt q e).1)

/-- How item ends: what it answers; the rest; the message. -/
def ItmP (B rb mb : Nat) (k : Int) (v : Value) (s : ByteArray) (ks : List ByteArray) (os : List ObjL) (w : World) (e : Ending) (w' : World) : Prop :=
  e = .returned v ∧ RdAt w' rb s ∧ (∃ kv ov, MgP w' B mb k kv ov ks os) ∧ Below B w w'

set_option maxHeartbeats 1000000 in
theorem item_short (B rb mb : Nat) (k : Int) (kv ov : Value) (s : ByteArray) (ks : List ByteArray) (os : List ObjL) (w : World) (hr : RdAt w rb s) (hm : MgP w B mb k kv ov ks os) (hs : s.size < 32) :
    Calls Tryd.prog 46 #[.pointer (some ⟨rb, 0, none⟩), .pointer (some ⟨mb, 0, none⟩)] w (ItmP B rb mb k (errV 1) s ks os w) := by
  have HK := Lib.hid (key_no rb s w hr hs)
  have HM := Lib.hid hm
  have HR := Lib.hid hr
  clear hr hm
  go_enter Tryd.func46, Tryd.ntmps46
  go_wp2_with (go_at_call 59; refine Calls.mono HK.out ?_; unfold errV; rintro e w1 ⟨rfl, rfl⟩)
  go_ret
  exact ⟨rfl, HR.out, ⟨_, _, HM.out⟩, Below.refl _ _⟩

set_option maxRecDepth 100000 in
set_option maxHeartbeats 2000000 in
theorem item_key (B rb mb : Nat) (kv ov : Value) (s : ByteArray) (ks : List ByteArray) (os : List ObjL) (w : World) (hr : RdAt w rb s) (hm : MgP w B mb 2 kv ov ks os) (hs : 32 ≤ s.size) (hz : s.size ≤ 1000000) (hB : B ≤ rb) (hBw : B ≤ w.heap.size) (hl : ks.length ≤ 100) :
    Calls Tryd.prog 46 #[.pointer (some ⟨rb, 0, none⟩), .pointer (some ⟨mb, 0, none⟩)] w (ItmP B rb mb 2 .nilIface (s.extract 32 s.size) (ks ++ [s.extract 0 32]) os w) := by
  obtain ⟨i0, hi, hz0, hz1, hz2⟩ := info_parts info_str
  have HK := Lib.hid (key_yes rb s w hr hs hz)
  have HM := Lib.hid hm
  have HR := Lib.hid hr
  obtain ⟨x, hx⟩ : ∃ x, x = s.extract 0 32 := ⟨_, rfl⟩
  rw [← hx] at HK
  rw [← hx]
  obtain ⟨A0, n0, k0, rfl⟩ := own_slice hm.ko
  clear hr hm hx
  go_enter Tryd.func46, Tryd.ntmps46
  go_wp2_with (first
    | (go_at_call 59; refine Calls.mono HK.out ?_; rintro e w1 ⟨rfl, h1⟩; have HM1 := Lib.hid (HM.out.read HR.out h1); have HR1 := Lib.hid h1.1; have HB1 := Lib.hid (rd_below hB hBw h1); have hBw1 := (Nat.le_trans hBw h1.2.size); obtain ⟨c0, c1, c2, c3, c4, c5, cf⟩ := HM1.out.cell; have f3 := cf 3; clear cf h1)
    | (at_builtin
       refine wpList_append_lies _ rfl _ _ _ rfl B 9 i0 _ 1 16 Tryd.underlying22 hi hz0 hz1 hz2 rfl (by omega) _ ks.length _ rfl (HM1.out.ko.alloc _) ⟨w1.heap.size, 0, none⟩ 1 1 [.string x] rfl rfl (fun j u hj => news_cells w1 [.string x] 9 hj) (by simp [Value.oneCell']) (by omega) (by unfold maxLen; omega) (by omega) (by simp; omega) (w1.heap.size + 1) (by simp) ?_
       intro g cap w2 hown2 hgrow hat hlt
       have HX := Lib.hid (mg_key HM1.out HR1.out hBw1 ((Below.refl _ _).alloc (Nat.le_refl _) _) hgrow hown2)
       have f4 : w2.frozen? ⟨mb, 3, none⟩ = false := (hgrow.frozen_far ⟨mb, 3, none⟩ ((HM1.out.on ((Below.refl _ _).alloc (Nat.le_refl _) _)).lt) (own_apart HM1.out.ko HM1.out.blk (by decide)).symm).trans ((HM1.out.on ((Below.refl _ _).alloc (Nat.le_refl _) _)).cell.2.2.2.2.2.2 3)
       have c4' : w2.cell? ⟨mb, 3, none⟩ = some (.slice A0 n0 k0) := (hgrow.cell_far ⟨mb, 3, none⟩ ((HM1.out.on ((Below.refl _ _).alloc (Nat.le_refl _) _)).lt) (own_apart HM1.out.ko HM1.out.blk (by decide)).symm).trans (HM1.out.on ((Below.refl _ _).alloc (Nat.le_refl _) _)).cell.2.2.2.1
       clear hown2 hgrow hat hlt))
  go_ret
  obtain ⟨g1, g2, g3⟩ := HX.out
  exact ⟨rfl, g2, ⟨_, _, g1⟩, HB1.out.trans g3⟩

set_option maxRecDepth 100000 in
set_option maxHeartbeats 2000000 in
theorem item_obj (B rb mb : Nat) (kv ov : Value) (s t : ByteArray) (j : Nat) (ks : List ByteArray) (os : List ObjL) (w : World) (hr : RdAt w rb s) (hm : MgP w B mb 3 kv ov ks os) (hs : 32 ≤ s.size) (hz : s.size ≤ 1000000) (hB : B ≤ rb) (hBw : B ≤ w.heap.size) (hl : os.length ≤ 100)
    (ht : takeT (s.extract 32 s.size) = (t, j, 0)) :
    Calls Tryd.prog 46 #[.pointer (some ⟨rb, 0, none⟩), .pointer (some ⟨mb, 0, none⟩)] w (ItmP B rb mb 3 .nilIface ((s.extract 32 s.size).extract j (s.extract 32 s.size).size) ks (os ++ [(s.extract 0 32, t)]) w) := by
  obtain ⟨i0, hi, hz0, hz1, hz2⟩ := info_parts info_obj
  have HK := Lib.hid (key_yes rb s w hr hs hz)
  have HM := Lib.hid hm
  have HR := Lib.hid hr
  have HTX := Lib.hid (fun W (hW : RdAt W rb (s.extract 32 s.size)) => text_yes rb (s.extract 32 s.size) t j W hW ht (by rw [ByteArray.size_extract]; omega))
  obtain ⟨r, hrr⟩ : ∃ r, r = s.extract 32 s.size := ⟨_, rfl⟩
  rw [← hrr] at HK HTX
  rw [← hrr]
  obtain ⟨x, hx⟩ : ∃ x, x = s.extract 0 32 := ⟨_, rfl⟩
  rw [← hx] at HK
  rw [← hx]
  obtain ⟨A0, n0, k0, rfl⟩ := own_slice hm.oo
  clear hr hm hx hrr ht
  go_enter Tryd.func46, Tryd.ntmps46
  go_wp2_with (first
    | (go_at_call 59; refine Calls.mono HK.out ?_; rintro e w0 ⟨rfl, h1⟩; have HM0 := Lib.hid (HM.out.read HR.out h1); have HR0 := Lib.hid h1.1; have HB0 := Lib.hid (rd_below hB hBw h1); have HW0 := Lib.hid (Nat.le_trans hBw h1.2.size); have d0 := HM0.out.cell.1; clear h1)
    | (go_at_call 44; refine Calls.mono (HTX.out _ HR0.out) ?_; rintro e w1 ⟨rfl, h1⟩; have HM1 := Lib.hid (HM0.out.read HR0.out h1); have HR1 := Lib.hid h1.1; have HB1 := Lib.hid (HB0.out.trans (rd_below hB HW0.out h1)); have hBw1 := (Nat.le_trans HW0.out h1.2.size); obtain ⟨c0, c1, c2, c3, c4, c5, cf⟩ := HM1.out.cell; have f3 := cf 4; clear cf h1)
    | (at_builtin
       refine wpList_append_lies _ rfl _ _ _ rfl B 40 i0 _ 2 32 Tryd.underlying23 hi hz0 hz1 hz2 rfl (by omega) _ os.length _ rfl (HM1.out.oo.alloc _) ⟨w1.heap.size, 0, none⟩ 1 1 [.string x, .string t] rfl rfl (fun j u hj => news_cells w1 [.string x, .string t] 40 hj) (by simp [Value.oneCell']) (by omega) (by unfold maxLen; omega) (by omega) (by simp; omega) (w1.heap.size + 1) (by simp) ?_
       intro g cap w2 hown2 hgrow hat hlt
       have HX := Lib.hid (mg_obj (x := (x, t)) HM1.out HR1.out hBw1 ((Below.refl _ _).alloc (Nat.le_refl _) _) hgrow hown2)
       have f4 : w2.frozen? ⟨mb, 4, none⟩ = false := (hgrow.frozen_far ⟨mb, 4, none⟩ ((HM1.out.on ((Below.refl _ _).alloc (Nat.le_refl _) _)).lt) (own_apart HM1.out.oo HM1.out.blk (by decide)).symm).trans ((HM1.out.on ((Below.refl _ _).alloc (Nat.le_refl _) _)).cell.2.2.2.2.2.2 4)
       have c4' : w2.cell? ⟨mb, 4, none⟩ = some (.slice A0 n0 k0) := (hgrow.cell_far ⟨mb, 4, none⟩ ((HM1.out.on ((Below.refl _ _).alloc (Nat.le_refl _) _)).lt) (own_apart HM1.out.oo HM1.out.blk (by decide)).symm).trans (HM1.out.on ((Below.refl _ _).alloc (Nat.le_refl _) _)).cell.2.2.2.2.1
       clear hown2 hgrow hat hlt))
  go_ret
  obtain ⟨g1, g2, g3⟩ := HX.out
  exact ⟨rfl, g2, ⟨_, _, g1⟩, HB1.out.trans g3⟩

set_option maxRecDepth 100000 in
set_option maxHeartbeats 2000000 in
theorem item_torn (B rb mb : Nat) (kv ov : Value) (s : ByteArray) (ks : List ByteArray) (os : List ObjL) (w : World) (hr : RdAt w rb s) (hm : MgP w B mb 3 kv ov ks os) (hs : 32 ≤ s.size) (hz : s.size ≤ 1000000) (hB : B ≤ rb) (hBw : B ≤ w.heap.size) (hl : os.length ≤ 100)
    (ht : (takeT (s.extract 32 s.size)).2.2 ≠ 0) :
    Calls Tryd.prog 46 #[.pointer (some ⟨rb, 0, none⟩), .pointer (some ⟨mb, 0, none⟩)] w fun e w' => ∃ c, ItmP B rb mb 3 (errV c) (s.extract 32 s.size) ks (os ++ [(s.extract 0 32, ⟨#[]⟩)]) w e w' := by
  obtain ⟨i0, hi, hz0, hz1, hz2⟩ := info_parts info_obj
  have HK := Lib.hid (key_yes rb s w hr hs hz)
  have HM := Lib.hid hm
  have HR := Lib.hid hr
  have HTX := Lib.hid (fun W (hW : RdAt W rb (s.extract 32 s.size)) => text_no rb (s.extract 32 s.size) W hW ht (by rw [ByteArray.size_extract]; omega))
  obtain ⟨r, hrr⟩ : ∃ r, r = s.extract 32 s.size := ⟨_, rfl⟩
  rw [← hrr] at HK HTX
  rw [← hrr]
  obtain ⟨x, hx⟩ : ∃ x, x = s.extract 0 32 := ⟨_, rfl⟩
  rw [← hx] at HK
  rw [← hx]
  obtain ⟨A0, n0, k0, rfl⟩ := own_slice hm.oo
  clear hr hm hx hrr ht
  go_enter Tryd.func46, Tryd.ntmps46
  go_wp2_with (first
    | (go_at_call 59; refine Calls.mono HK.out ?_; rintro e w0 ⟨rfl, h1⟩; have HM0 := Lib.hid (HM.out.read HR.out h1); have HR0 := Lib.hid h1.1; have HB0 := Lib.hid (rd_below hB hBw h1); have HW0 := Lib.hid (Nat.le_trans hBw h1.2.size); have d0 := HM0.out.cell.1; clear h1)
    | (go_at_call 44; refine Calls.mono (HTX.out _ HR0.out) ?_; unfold errV; rintro e w1 ⟨⟨c, rfl⟩, h1⟩; have HM1 := Lib.hid (HM0.out.read HR0.out h1); have HR1 := Lib.hid h1.1; have HB1 := Lib.hid (HB0.out.trans (rd_below hB HW0.out h1)); have hBw1 := (Nat.le_trans HW0.out h1.2.size); obtain ⟨c0, c1, c2, c3, c4, c5, cf⟩ := HM1.out.cell; have f3 := cf 4; clear cf h1)
    | (at_builtin
       refine wpList_append_lies _ rfl _ _ _ rfl B 40 i0 _ 2 32 Tryd.underlying23 hi hz0 hz1 hz2 rfl (by omega) _ os.length _ rfl (HM1.out.oo.alloc _) ⟨w1.heap.size, 0, none⟩ 1 1 [.string x, .string ⟨#[]⟩] rfl rfl (fun j u hj => news_cells w1 [.string x, .string ⟨#[]⟩] 40 hj) (by simp [Value.oneCell']) (by omega) (by unfold maxLen; omega) (by omega) (by simp; omega) (w1.heap.size + 1) (by simp) ?_
       intro g cap w2 hown2 hgrow hat hlt
       have HX := Lib.hid (mg_obj (x := (x, ⟨#[]⟩)) HM1.out HR1.out hBw1 ((Below.refl _ _).alloc (Nat.le_refl _) _) hgrow hown2)
       have f4 : w2.frozen? ⟨mb, 4, none⟩ = false := (hgrow.frozen_far ⟨mb, 4, none⟩ ((HM1.out.on ((Below.refl _ _).alloc (Nat.le_refl _) _)).lt) (own_apart HM1.out.oo HM1.out.blk (by decide)).symm).trans ((HM1.out.on ((Below.refl _ _).alloc (Nat.le_refl _) _)).cell.2.2.2.2.2.2 4)
       have c4' : w2.cell? ⟨mb, 4, none⟩ = some (.slice A0 n0 k0) := (hgrow.cell_far ⟨mb, 4, none⟩ ((HM1.out.on ((Below.refl _ _).alloc (Nat.le_refl _) _)).lt) (own_apart HM1.out.oo HM1.out.blk (by decide)).symm).trans (HM1.out.on ((Below.refl _ _).alloc (Nat.le_refl _) _)).cell.2.2.2.2.1
       clear hown2 hgrow hat hlt))
  go_ret
  obtain ⟨g1, g2, g3⟩ := HX.out
  exact ⟨c, rfl, g2, ⟨_, _, g1⟩, HB1.out.trans g3⟩

end Go.Proofs.YthlajcohbpjgkaaDoor
