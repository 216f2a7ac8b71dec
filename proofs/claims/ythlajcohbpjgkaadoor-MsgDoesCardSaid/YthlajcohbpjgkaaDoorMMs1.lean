/-
  The reader's message: none; an offer.
-/
import Derived.Test.YthlajcohbpjgkaaDoorMItm
namespace Go.Proofs.YthlajcohbpjgkaaDoor
open Go.RowKit Go.Shelf Go.Proofs.Mem
set_option linter.unusedVariables false

/-- A message's block. -/
def MB (w : World) (b : Nat) (cs : Array Value) : Prop := w.heap[b]? = some (.cells cs 26 (0, 0))
theorem MB.lt {w : World} {b : Nat} {cs : Array Value} (h : MB w b cs) : b < w.heap.size := (Array.getElem?_eq_some_iff.1 h).1
theorem MB.cell {w : World} {b : Nat} {cs : Array Value} (h : MB w b cs) (i : Nat) : w.cell? ⟨b, i, none⟩ = cs[i]? := Lib.cell_of_heap h i
theorem MB.froz {w : World} {b : Nat} {cs : Array Value} (h : MB w b cs) (i : Nat) : w.frozen? ⟨b, i, none⟩ = false := Lib.frozen_of_heap h i
theorem MB.ne {w : World} {b rb : Nat} {cs : Array Value} {s : ByteArray} (h : MB w b cs) (hr : RdAt w rb s) : b ≠ rb := by
  rintro rfl
  have e := hr.symm.trans h
  injection e with e
  injection e with _ e
  revert e
  decide
theorem MB.read {w w' : World} {b rb : Nat} {cs : Array Value} {s t : ByteArray} (h : MB w b cs) (hr : RdAt w rb s) (hg : RdS rb t w w') : MB w' b cs := (hg.2.block b h.lt (fun e => h.ne hr (Option.some.inj e))).trans h
theorem RdAt.msg {w : World} {b rb : Nat} {cs : Array Value} {s : ByteArray} (hr : RdAt w rb s) (h : MB w b cs) (i : Nat) (v : Value) : RdAt (w.setCell ⟨b, i, none⟩ v) rb s :=
  hr.grown (set_grown w ⟨b, i, none⟩ v) (fun e => h.ne hr (Option.some.inj e).symm)
theorem MB.on {w w' : World} {b : Nat} {cs : Array Value} (h : MB w b cs) (hb : Below w.heap.size w w') : MB w' b cs := (hb.block b h.lt).trans h
section
variable {w : World} {b : Nat} {c0 c1 c2 c3 c4 c5 x v : Value}
theorem ms0 (h : MB w b #[x, c1, c2, c3, c4, c5]) : MB (w.setCell ⟨b, 0, none⟩ v) b #[v, c1, c2, c3, c4, c5] := heap_setCell_same w b 0 _ _ _ h
theorem ms1 (h : MB w b #[c0, x, c2, c3, c4, c5]) : MB (w.setCell ⟨b, 1, none⟩ v) b #[c0, v, c2, c3, c4, c5] := heap_setCell_same w b 1 _ _ _ h
theorem ms2 (h : MB w b #[c0, c1, x, c3, c4, c5]) : MB (w.setCell ⟨b, 2, none⟩ v) b #[c0, c1, v, c3, c4, c5] := heap_setCell_same w b 2 _ _ _ h
theorem ms3 (h : MB w b #[c0, c1, c2, x, c4, c5]) : MB (w.setCell ⟨b, 3, none⟩ v) b #[c0, c1, c2, v, c4, c5] := heap_setCell_same w b 3 _ _ _ h
theorem ms4 (h : MB w b #[c0, c1, c2, c3, x, c5]) : MB (w.setCell ⟨b, 4, none⟩ v) b #[c0, c1, c2, c3, v, c5] := heap_setCell_same w b 4 _ _ _ h
theorem ms5 (h : MB w b #[c0, c1, c2, c3, c4, x]) : MB (w.setCell ⟨b, 5, none⟩ v) b #[c0, c1, c2, c3, c4, v] := heap_setCell_same w b 5 _ _ _ h
theorem msr {rb : Nat} {cs : Array Value} (h : MB w b cs) (hne : b ≠ rb) : MB (w.setCell ⟨rb, 0, none⟩ v) b cs := (Below.heap_setCell w ⟨rb, 0, none⟩ v b hne).trans h
theorem mb6 {v0 v1 v2 v3 v4 v5 x0 x1 x2 x3 x4 x5 : Value} (h : MB w b #[x0, x1, x2, x3, x4, x5]) :
    MB ((((((w.setCell ⟨b, 0, none⟩ v0).setCell ⟨b, 1, none⟩ v1).setCell ⟨b, 2, none⟩ v2).setCell ⟨b, 3, none⟩ v3).setCell ⟨b, 4, none⟩ v4).setCell ⟨b, 5, none⟩ v5) b #[v0, v1, v2, v3, v4, v5] := ms5 (ms4 (ms3 (ms2 (ms1 (ms0 h)))))
theorem bel6 {B : Nat} {a : World} {v0 v1 v2 v3 v4 v5 : Value} (h : Below B a w) (hb : B ≤ b) :
    Below B a ((((((w.setCell ⟨b, 0, none⟩ v0).setCell ⟨b, 1, none⟩ v1).setCell ⟨b, 2, none⟩ v2).setCell ⟨b, 3, none⟩ v3).setCell ⟨b, 4, none⟩ v4).setCell ⟨b, 5, none⟩ v5) :=
  (((((h.setCell (p := ⟨b, 0, none⟩) hb _).setCell (p := ⟨b, 1, none⟩) hb _).setCell (p := ⟨b, 2, none⟩) hb _).setCell (p := ⟨b, 3, none⟩) hb _).setCell (p := ⟨b, 4, none⟩) hb _).setCell (p := ⟨b, 5, none⟩) hb _
end
/-- What message hands back. -/
theorem res_mes {tmps : Array Value} {W : World} {b : Nat} {k er : Int} {ev : Value} {A1 A2 : Option Addr} {n1 n2 d1 d2 : Nat} {t1 t2 : ByteArray} (h2 : tmps.getD 2 undef = .pointer (some ⟨b, 0, none⟩)) (h3 : tmps.getD 3 undef = ev)
    (hM : MB W b #[.int .i64 k, .string t1, .string t2, .slice A1 n1 d1, .slice A2 n2 d2, .int .i64 er]) :
    (results Tryd.f25 tmps).run Tryd.prog W = .ok (.tuple #[.agg #[.int .i64 k, .string t1, .string t2, .slice A1 n1 d1, .slice A2 n2 d2, .int .i64 er], ev]) W := by
  have q0 : W.cell? ⟨b, 0, none⟩ = some (.int .i64 k) := hM.cell 0
  have q1 : W.cell? ⟨b, 1, none⟩ = some (.string t1) := hM.cell 1
  have q2 : W.cell? ⟨b, 2, none⟩ = some (.string t2) := hM.cell 2
  have q3 : W.cell? ⟨b, 3, none⟩ = some (.slice A1 n1 d1) := hM.cell 3
  have q4 : W.cell? ⟨b, 4, none⟩ = some (.slice A2 n2 d2) := hM.cell 4
  have q5 : W.cell? ⟨b, 5, none⟩ = some (.int .i64 er) := hM.cell 5
  rw [Array.getD_eq_getD_getElem?] at h2 h3
  simp only [results, Tryd.f25]
  go_simp
/-- A message whose rows the call owns. -/
def MsgO (w : World) (B : Nat) (v : Value) (m : MsgL) : Prop :=
  ∃ kv ov, v = msgA m kv ov ∧ w.ownsRow B 9 1 kv m.keys.length (m.keys.map .string) ∧ w.ownsRow B 40 2 ov m.objs.length (cellsO m.objs)
theorem MsgO.bare {w : World} {B : Nat} (k e : Int) (n r : ByteArray) : MsgO w B (.agg #[.int .i64 k, .string n, .string r, .slice none 0 0, .slice none 0 0, .int .i64 e]) ⟨k, n, r, [], [], e⟩ := ⟨_, _, rfl, World.ownsRow_nil _ _ _ _, World.ownsRow_nil _ _ _ _⟩
/-- How message ends. -/
def MesP (B : Nat) (o : Option MsgL) (w : World) (e : Ending) (w' : World) : Prop :=
  (match o with
    | some m => ∃ v, e = .returned (.tuple #[v, .nilIface]) ∧ MsgO w' B v m
    | none => ∃ v c m, e = .returned (.tuple #[v, errV c]) ∧ MsgO w' B v m) ∧ Below B w w'
theorem MsgV.bare {w : World} {B : Nat} (k e : Int) (n r : ByteArray) : MsgV w B (.agg #[.int .i64 k, .string n, .string r, .slice none 0 0, .slice none 0 0, .int .i64 e]) ⟨k, n, r, [], [], e⟩ := ⟨_, _, rfl, Strs.none_, Objs.nil⟩
theorem first_byte (s : ByteArray) (h : 0 < s.size) : ∃ x : ByteArray, x = s.extract 0 1 ∧ 0 < x.size ∧ ∀ h0 : 0 < x.size, (x[0].toNat : Int) = (byteAt s 0 : Nat) := by
  refine ⟨_, rfl, by rw [ByteArray.size_extract]; omega, fun h0 => ?_⟩
  rw [byteAt_eq s 0 h, ByteArray.getElem_extract]

set_option maxRecDepth 100000 in
set_option maxHeartbeats 2000000 in
theorem mes_0 (B rb : Nat) (s : ByteArray) (w : World) (hr : RdAt w rb s) (hBw : B ≤ w.heap.size) (hs : s.size = 0) :
    Calls Tryd.prog 25 #[.pointer (some ⟨rb, 0, none⟩)] w (MesP B (readM s) w) := by
  have HM : Hid (readM s = none) := Lib.hid (by unfold readM; rw [if_pos hs])
  have e0 : s.toList.isEmpty = true := by rw [List.isEmpty_iff, str_nil]; exact hs
  have c0 := hr.cell
  have hl := hr.lt
  clear hs hr
  go_enter Tryd.func25, Tryd.ntmps25
  go_wp2_with fail
  refine bodyPost_ret (v := .tuple #[.agg #[.int .i64 0, .string ⟨#[]⟩, .string ⟨#[]⟩, .slice none 0 0, .slice none 0 0, .int .i64 0], errV 1]) (by simp [results, Tryd.results25, go_sem, errV]) rfl ?_
  rw [HM.out]
  exact ⟨⟨_, _, _, rfl, MsgO.bare 0 0 _ _⟩, (Below.refl _ _).alloc hBw _⟩

theorem read_1n (s : ByteArray) (h : 0 < s.size) (h1 : byteAt s 0 = 1) (ht : (takeT (s.extract 1 s.size)).2.2 ≠ 0) : readM s = none := by
  unfold readM; rw [if_neg (by omega), if_pos h1, if_pos ht]
theorem read_1y (s t : ByteArray) (k : Nat) (h : 0 < s.size) (h1 : byteAt s 0 = 1) (ht : takeT (s.extract 1 s.size) = (t, k, 0)) :
    readM s = if fitL ⟨1, t, (s.extract 1 s.size).extract k (s.extract 1 s.size).size, [], [], 0⟩ = true then some ⟨1, t, (s.extract 1 s.size).extract k (s.extract 1 s.size).size, [], [], 0⟩ else none := by
  unfold readM; rw [if_neg (by omega), if_pos h1, ht]; rfl

set_option maxRecDepth 100000 in
set_option maxHeartbeats 2000000 in
theorem mes_1 (B rb : Nat) (s : ByteArray) (w : World) (hr : RdAt w rb s) (hB : B ≤ rb) (hBw : B ≤ w.heap.size) (hs : 0 < s.size) (hz : s.size ≤ 1000000) (h1 : byteAt s 0 = 1) :
    Calls Tryd.prog 25 #[.pointer (some ⟨rb, 0, none⟩)] w (MesP B (readM s) w) := by
  have e0 : s.toList.isEmpty = false := by rw [Bool.eq_false_iff, ne_eq, List.isEmpty_iff, str_nil]; omega
  obtain ⟨x1, hx1, hxs, hxb⟩ := first_byte s hs
  have hx0 : (x1[0].toNat : Int) = 1 := by rw [hxb hxs, h1]; rfl
  have HCU := Lib.hid (fun W (hW : RdAt W rb s) => cut_any rb 1 s W hW (by omega) hz)
  rw [← hx1] at HCU
  obtain ⟨r, hrr⟩ : ∃ r, r = s.extract 1 s.size := ⟨_, rfl⟩
  have hrz : r.size ≤ 1000000 := by rw [hrr, ByteArray.size_extract]; omega
  rw [← hrr] at HCU
  have HR0 := Lib.hid hr
  have hl := hr.lt
  have c0 := hr.cell
  obtain ⟨⟨t, k, c⟩, ht⟩ : ∃ y, y = takeT r := ⟨_, rfl⟩
  by_cases hc : c = 0
  case neg =>
    have HM : Hid (readM s = none) := Lib.hid (read_1n s hs h1 (by rw [← hrr, ← ht]; exact hc))
    have HTX := Lib.hid (fun W (hW : RdAt W rb r) => text_no rb r W hW (by rw [← ht]; exact hc) hrz)
    clear hr hx1 hxb hrr ht hc h1
    go_enter Tryd.func25, Tryd.ntmps25
    go_wp2_with (first
      | (go_at_call 43; refine Calls.mono (HCU.out _ (HR0.out.on ((Below.refl _ _).alloc (Nat.le_refl _) _))) ?_; rintro e w1 ⟨rfl, h1⟩; have HR1 := Lib.hid h1.1; have HM1 : Hid (MB w1 w.heap.size #[.int .i64 0, .string ⟨#[]⟩, .string ⟨#[]⟩, .slice none 0 0, .slice none 0 0, .int .i64 0]) := Lib.hid (MB.read (heap_alloc_new w _) (HR0.out.on ((Below.refl _ _).alloc (Nat.le_refl _) _)) h1); have HB1 : Hid (Below B w w1) := Lib.hid (((Below.refl _ _).alloc hBw _).trans (rd_below hB (by simp; omega) h1)); have c10 : w1.cell? ⟨w.heap.size, 0, none⟩ = some (.int .i64 0) := HM1.out.cell 0; have f1 := HM1.out.froz 0; have hz1 : B ≤ w1.heap.size := Nat.le_trans hBw HB1.out.size; clear h1)
      | (go_at_call 44; refine Calls.mono (HTX.out _ (HR1.out.msg HM1.out 0 _)) ?_; unfold errV; rintro e w3 ⟨⟨c', rfl⟩, h3⟩; have HM3 := Lib.hid (MB.read (heap_setCell_same w1 w.heap.size 0 _ _ _ HM1.out) (HR1.out.msg HM1.out 0 _) h3); have HR3 := Lib.hid h3.1; have HB3 : Hid (Below B w w3) := Lib.hid ((Below.setCell (p := ⟨w.heap.size, 0, none⟩) HB1.out hBw _).trans (rd_below hB (by simp; omega) h3)); have hz3 : w.heap.size < w3.heap.size := HM3.out.lt; have hr3 : rb < w3.heap.size := HR3.out.lt; have c30 : w3.cell? ⟨w.heap.size, 0, none⟩ = some (.int .i64 1) := HM3.out.cell 0; have f30 := HM3.out.froz 0; have c31 : w3.cell? ⟨w.heap.size, 1, none⟩ = some (.string ⟨#[]⟩) := HM3.out.cell 1; have f31 := HM3.out.froz 1; have c32 : w3.cell? ⟨w.heap.size, 2, none⟩ = some (.string ⟨#[]⟩) := HM3.out.cell 2; have f32 := HM3.out.froz 2; have c33 : w3.cell? ⟨w.heap.size, 3, none⟩ = some (.slice none 0 0) := HM3.out.cell 3; have f33 := HM3.out.froz 3; have c34 : w3.cell? ⟨w.heap.size, 4, none⟩ = some (.slice none 0 0) := HM3.out.cell 4; have f34 := HM3.out.froz 4; have c35 : w3.cell? ⟨w.heap.size, 5, none⟩ = some (.int .i64 0) := HM3.out.cell 5; have f35 := HM3.out.froz 5; have r0 := HR3.out.cell; have rf := HR3.out.froz 0; have hne := HM3.out.ne HR3.out; clear h3; have HM5 : Hid (MB (((w3.setCell ⟨w.heap.size, 1, none⟩ (.string ⟨#[]⟩)).setCell ⟨w.heap.size, 2, none⟩ (.string r)).setCell ⟨rb, 0, none⟩ (.string ⟨#[]⟩)) w.heap.size #[.int .i64 1, .string ⟨#[]⟩, .string r, .slice none 0 0, .slice none 0 0, .int .i64 0]) := Lib.hid (msr (ms2 (ms1 HM3.out)) hne); have HB5 : Hid (Below B w (((w3.setCell ⟨w.heap.size, 1, none⟩ (.string ⟨#[]⟩)).setCell ⟨w.heap.size, 2, none⟩ (.string r)).setCell ⟨rb, 0, none⟩ (.string ⟨#[]⟩))) := Lib.hid (((HB3.out.setCell (p := ⟨w.heap.size, 1, none⟩) hBw _).setCell (p := ⟨w.heap.size, 2, none⟩) hBw _).setCell (p := ⟨rb, 0, none⟩) hB _)))
    refine bodyPost_ret (res_mes rfl rfl (mb6 HM5.out)) rfl ?_
    rw [HM.out]
    exact ⟨⟨_, _, _, rfl, MsgO.bare 1 0 _ _⟩, bel6 HB5.out hBw⟩
  subst hc
  have hk : k ≤ r.size := by have := takeT_end r; rw [← ht] at this; exact this
  obtain ⟨q, hq⟩ : ∃ q, q = r.extract k r.size := ⟨_, rfl⟩
  have HRM := Lib.hid (read_1y s t k hs h1 (by rw [← hrr, ← ht]))
  rw [← hrr, ← hq] at HRM
  have hts : t.size ≤ maxLen := by
    have := (takeT_split r t k ht.symm).2.1
    unfold maxLen
    omega
  have HTX := Lib.hid (fun W (hW : RdAt W rb r) => text_yes rb r t k W hW ht.symm hrz)
  rw [← hq] at HTX
  cases hf : fitL ⟨1, t, q, [], [], 0⟩ with
  | true =>
    have HM : Hid (readM s = some ⟨1, t, q, [], [], 0⟩) := Lib.hid (by rw [HRM.out, if_pos hf])
    have HFI := Lib.hid (fun W => mfit_any _ ⟨1, t, q, [], [], 0⟩ W true hf (MsgV.bare 1 0 t q) hts)
    clear hr hx1 hxb hrr ht h1 hf hq
    go_enter Tryd.func25, Tryd.ntmps25
    go_wp2_with (first
      | (go_at_call 43; refine Calls.mono (HCU.out _ (HR0.out.on ((Below.refl _ _).alloc (Nat.le_refl _) _))) ?_; rintro e w1 ⟨rfl, h1⟩; have HR1 := Lib.hid h1.1; have HM1 : Hid (MB w1 w.heap.size #[.int .i64 0, .string ⟨#[]⟩, .string ⟨#[]⟩, .slice none 0 0, .slice none 0 0, .int .i64 0]) := Lib.hid (MB.read (heap_alloc_new w _) (HR0.out.on ((Below.refl _ _).alloc (Nat.le_refl _) _)) h1); have HB1 : Hid (Below B w w1) := Lib.hid (((Below.refl _ _).alloc hBw _).trans (rd_below hB (by simp; omega) h1)); have c10 : w1.cell? ⟨w.heap.size, 0, none⟩ = some (.int .i64 0) := HM1.out.cell 0; have f1 := HM1.out.froz 0; have hz1 : B ≤ w1.heap.size := Nat.le_trans hBw HB1.out.size; clear h1)
      | (go_at_call 44; refine Calls.mono (HTX.out _ (HR1.out.msg HM1.out 0 _)) ?_; rintro e w3 ⟨rfl, h3⟩; have HM3 := Lib.hid (MB.read (heap_setCell_same w1 w.heap.size 0 _ _ _ HM1.out) (HR1.out.msg HM1.out 0 _) h3); have HR3 := Lib.hid h3.1; have HB3 : Hid (Below B w w3) := Lib.hid ((Below.setCell (p := ⟨w.heap.size, 0, none⟩) HB1.out hBw _).trans (rd_below hB (by simp; omega) h3)); have hz3 : w.heap.size < w3.heap.size := HM3.out.lt; have hr3 : rb < w3.heap.size := HR3.out.lt; have c30 : w3.cell? ⟨w.heap.size, 0, none⟩ = some (.int .i64 1) := HM3.out.cell 0; have f30 := HM3.out.froz 0; have c31 : w3.cell? ⟨w.heap.size, 1, none⟩ = some (.string ⟨#[]⟩) := HM3.out.cell 1; have f31 := HM3.out.froz 1; have c32 : w3.cell? ⟨w.heap.size, 2, none⟩ = some (.string ⟨#[]⟩) := HM3.out.cell 2; have f32 := HM3.out.froz 2; have c33 : w3.cell? ⟨w.heap.size, 3, none⟩ = some (.slice none 0 0) := HM3.out.cell 3; have f33 := HM3.out.froz 3; have c34 : w3.cell? ⟨w.heap.size, 4, none⟩ = some (.slice none 0 0) := HM3.out.cell 4; have f34 := HM3.out.froz 4; have c35 : w3.cell? ⟨w.heap.size, 5, none⟩ = some (.int .i64 0) := HM3.out.cell 5; have f35 := HM3.out.froz 5; have r0 := HR3.out.cell; have rf := HR3.out.froz 0; have hne := HM3.out.ne HR3.out; clear h3; have HM5 : Hid (MB (((w3.setCell ⟨w.heap.size, 1, none⟩ (.string t)).setCell ⟨w.heap.size, 2, none⟩ (.string q)).setCell ⟨rb, 0, none⟩ (.string ⟨#[]⟩)) w.heap.size #[.int .i64 1, .string t, .string q, .slice none 0 0, .slice none 0 0, .int .i64 0]) := Lib.hid (msr (ms2 (ms1 HM3.out)) hne); have HB5 : Hid (Below B w (((w3.setCell ⟨w.heap.size, 1, none⟩ (.string t)).setCell ⟨w.heap.size, 2, none⟩ (.string q)).setCell ⟨rb, 0, none⟩ (.string ⟨#[]⟩))) := Lib.hid (((HB3.out.setCell (p := ⟨w.heap.size, 1, none⟩) hBw _).setCell (p := ⟨w.heap.size, 2, none⟩) hBw _).setCell (p := ⟨rb, 0, none⟩) hB _))
      | (go_at_call 14; refine Calls.mono (HFI.out _) ?_; rintro e w4 ⟨rfl, hb4⟩; have HB4 : Hid (Below B w w4) := Lib.hid (HB5.out.trans (hb4.mono (Nat.le_trans hBw HB5.out.size))); have HM4 := Lib.hid (HM5.out.on hb4); obtain ⟨hc4, hf4⟩ := bcell hb4; have hz4 : w.heap.size < w4.heap.size := HM4.out.lt; clear hb4))
    refine bodyPost_ret (res_mes rfl rfl (mb6 HM4.out)) rfl ?_
    rw [HM.out]
    exact ⟨⟨_, rfl, MsgO.bare 1 0 t q⟩, bel6 HB4.out hBw⟩
  | false =>
    have HM : Hid (readM s = none) := Lib.hid (by rw [HRM.out, if_neg (by rw [hf]; decide)])
    have HFI := Lib.hid (fun W => mfit_any _ ⟨1, t, q, [], [], 0⟩ W false hf (MsgV.bare 1 0 t q) hts)
    clear hr hx1 hxb hrr ht h1 hf hq
    go_enter Tryd.func25, Tryd.ntmps25
    go_wp2_with (first
      | (go_at_call 43; refine Calls.mono (HCU.out _ (HR0.out.on ((Below.refl _ _).alloc (Nat.le_refl _) _))) ?_; rintro e w1 ⟨rfl, h1⟩; have HR1 := Lib.hid h1.1; have HM1 : Hid (MB w1 w.heap.size #[.int .i64 0, .string ⟨#[]⟩, .string ⟨#[]⟩, .slice none 0 0, .slice none 0 0, .int .i64 0]) := Lib.hid (MB.read (heap_alloc_new w _) (HR0.out.on ((Below.refl _ _).alloc (Nat.le_refl _) _)) h1); have HB1 : Hid (Below B w w1) := Lib.hid (((Below.refl _ _).alloc hBw _).trans (rd_below hB (by simp; omega) h1)); have c10 : w1.cell? ⟨w.heap.size, 0, none⟩ = some (.int .i64 0) := HM1.out.cell 0; have f1 := HM1.out.froz 0; have hz1 : B ≤ w1.heap.size := Nat.le_trans hBw HB1.out.size; clear h1)
      | (go_at_call 44; refine Calls.mono (HTX.out _ (HR1.out.msg HM1.out 0 _)) ?_; rintro e w3 ⟨rfl, h3⟩; have HM3 := Lib.hid (MB.read (heap_setCell_same w1 w.heap.size 0 _ _ _ HM1.out) (HR1.out.msg HM1.out 0 _) h3); have HR3 := Lib.hid h3.1; have HB3 : Hid (Below B w w3) := Lib.hid ((Below.setCell (p := ⟨w.heap.size, 0, none⟩) HB1.out hBw _).trans (rd_below hB (by simp; omega) h3)); have hz3 : w.heap.size < w3.heap.size := HM3.out.lt; have hr3 : rb < w3.heap.size := HR3.out.lt; have c30 : w3.cell? ⟨w.heap.size, 0, none⟩ = some (.int .i64 1) := HM3.out.cell 0; have f30 := HM3.out.froz 0; have c31 : w3.cell? ⟨w.heap.size, 1, none⟩ = some (.string ⟨#[]⟩) := HM3.out.cell 1; have f31 := HM3.out.froz 1; have c32 : w3.cell? ⟨w.heap.size, 2, none⟩ = some (.string ⟨#[]⟩) := HM3.out.cell 2; have f32 := HM3.out.froz 2; have c33 : w3.cell? ⟨w.heap.size, 3, none⟩ = some (.slice none 0 0) := HM3.out.cell 3; have f33 := HM3.out.froz 3; have c34 : w3.cell? ⟨w.heap.size, 4, none⟩ = some (.slice none 0 0) := HM3.out.cell 4; have f34 := HM3.out.froz 4; have c35 : w3.cell? ⟨w.heap.size, 5, none⟩ = some (.int .i64 0) := HM3.out.cell 5; have f35 := HM3.out.froz 5; have r0 := HR3.out.cell; have rf := HR3.out.froz 0; have hne := HM3.out.ne HR3.out; clear h3; have HM5 : Hid (MB (((w3.setCell ⟨w.heap.size, 1, none⟩ (.string t)).setCell ⟨w.heap.size, 2, none⟩ (.string q)).setCell ⟨rb, 0, none⟩ (.string ⟨#[]⟩)) w.heap.size #[.int .i64 1, .string t, .string q, .slice none 0 0, .slice none 0 0, .int .i64 0]) := Lib.hid (msr (ms2 (ms1 HM3.out)) hne); have HB5 : Hid (Below B w (((w3.setCell ⟨w.heap.size, 1, none⟩ (.string t)).setCell ⟨w.heap.size, 2, none⟩ (.string q)).setCell ⟨rb, 0, none⟩ (.string ⟨#[]⟩))) := Lib.hid (((HB3.out.setCell (p := ⟨w.heap.size, 1, none⟩) hBw _).setCell (p := ⟨w.heap.size, 2, none⟩) hBw _).setCell (p := ⟨rb, 0, none⟩) hB _))
      | (go_at_call 14; refine Calls.mono (HFI.out _) ?_; rintro e w4 ⟨rfl, hb4⟩; have HB4 : Hid (Below B w w4) := Lib.hid (HB5.out.trans (hb4.mono (Nat.le_trans hBw HB5.out.size))); have HM4 := Lib.hid (HM5.out.on hb4); obtain ⟨hc4, hf4⟩ := bcell hb4; have hz4 : w.heap.size < w4.heap.size := HM4.out.lt; clear hb4))
    refine bodyPost_ret (res_mes rfl rfl (mb6 HM4.out)) rfl ?_
    rw [HM.out]
    exact ⟨⟨_, _, _, rfl, MsgO.bare 1 0 t q⟩, bel6 HB4.out hBw⟩

end Go.Proofs.YthlajcohbpjgkaaDoor
