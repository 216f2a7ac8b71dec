/-
  The reader's message: keys; objects. (Printed by genms2.py.)
-/
import Derived.Test.YthlajcohbpjgkaaDoorMMs1
namespace Go.Proofs.YthlajcohbpjgkaaDoor
open Go.RowKit Go.Shelf Go.Proofs.Mem
set_option linter.unusedVariables false

theorem objs_of_own {w : World} {B : Nat} {v : Value} {l : List ObjL} (h : w.ownsRow B 40 2 v l.length (cellsO l)) : Objs w w.heap.size v l := by
  rcases h.2 with ⟨rfl, h0⟩ | ⟨g, cap, cur, rfl, hb, hh, hle, hm, hsz, hx⟩
  · obtain rfl : l = [] := List.length_eq_zero_iff.1 h0
    exact Objs.nil
  · refine ⟨_, cap, rfl, hle, hm, .inr ⟨g, 0, rfl, (Array.getElem?_eq_some_iff.1 hh).1, fun j v hj => ?_⟩⟩
    rw [Nat.zero_add, cell_of_row _ _ j cur 40 (0, 0) hh]
    rw [← hx, List.getElem?_take] at hj
    split at hj
    · simpa using hj
    · cases hj
theorem read_ln (s : ByteArray) (h : 0 < s.size) (h1 : byteAt s 0 = 2 ∨ byteAt s 0 = 3) (ht : (takeB (s.extract 1 s.size)).2.2 ≠ 0 ∨ 4 < (takeB (s.extract 1 s.size)).1) : readM s = none := by
  unfold readM; rw [if_neg (by omega), if_neg (by omega), if_neg (by omega), if_pos h1, if_pos ht]
theorem read_lx (s : ByteArray) (n k : Nat) (h : 0 < s.size) (h1 : byteAt s 0 = 2 ∨ byteAt s 0 = 3) (ht : takeB (s.extract 1 s.size) = (n, k, 0)) (hn : n ≤ 4)
    (hi : itemsL (byteAt s 0 : Nat) n ((s.extract 1 s.size).extract k (s.extract 1 s.size).size) = none) : readM s = none := by
  unfold readM; rw [if_neg (by omega), if_neg (by omega), if_neg (by omega), if_pos h1, ht, if_neg (by rintro (h | h); exact h rfl; dsimp only at h; omega)]
  dsimp only
  rw [hi]
theorem read_ly (s : ByteArray) (n k : Nat) (l : List (ByteArray × ByteArray)) (r : ByteArray) (h : 0 < s.size) (h1 : byteAt s 0 = 2 ∨ byteAt s 0 = 3) (ht : takeB (s.extract 1 s.size) = (n, k, 0)) (hn : n ≤ 4)
    (hi : itemsL (byteAt s 0 : Nat) n ((s.extract 1 s.size).extract k (s.extract 1 s.size).size) = some (l, r)) :
    readM s = if r.size ≠ 0 then none else if fitL (mkL (byteAt s 0 : Nat) l) = true then some (mkL (byteAt s 0 : Nat) l) else none := by
  unfold readM; rw [if_neg (by omega), if_neg (by omega), if_neg (by omega), if_pos h1, ht, if_neg (by rintro (h | h); exact h rfl; dsimp only at h; omega)]
  dsimp only
  rw [hi]
/-- The items so far. -/
theorem items_step {kind : Int} {n : Nat} {s : ByteArray} {x : ByteArray × ByteArray} {r : ByteArray} (hi : itemL kind s = some (x, r)) : itemsL kind (n + 1) s = (itemsL kind n r).map fun y => (x :: y.1, y.2) := by
  rw [itemsL, hi]
  dsimp only
  cases itemsL kind n r with
  | none => rfl
  | some y => rfl
theorem items_fail {kind : Int} {n : Nat} {s : ByteArray} (hi : itemL kind s = none) : itemsL kind (n + 1) s = none := by rw [itemsL, hi]
/-- Behind i items: what they were, and what is left. -/
def Sofar (kind : Int) (n i : Nat) (s0 : ByteArray) (pre : List (ByteArray × ByteArray)) (s : ByteArray) : Prop :=
  pre.length = i ∧ s.size ≤ s0.size ∧ itemsL kind n s0 = (itemsL kind (n - i) s).map fun y => (pre ++ y.1, y.2)
theorem Sofar.zero (kind : Int) (n : Nat) (s0 : ByteArray) : Sofar kind n 0 s0 [] s0 := ⟨rfl, Nat.le_refl _, by
  rw [Nat.sub_zero]
  cases itemsL kind n s0 with
  | none => rfl
  | some y => rfl⟩
theorem item_size {kind : Int} {s r : ByteArray} {x : ByteArray × ByteArray} (h : itemL kind s = some (x, r)) : r.size ≤ s.size := by
  obtain ⟨_, e⟩ := itemL_split kind s x r h
  have := congrArg ByteArray.size e
  rw [ByteArray.size_append] at this
  omega
theorem Sofar.succ {kind : Int} {n i : Nat} {s0 s r : ByteArray} {pre : List (ByteArray × ByteArray)} {x : ByteArray × ByteArray} (h : Sofar kind n i s0 pre s) (hi : itemL kind s = some (x, r)) (hlt : i < n) : Sofar kind n (i + 1) s0 (pre ++ [x]) r := by
  obtain ⟨h1, h2, h3⟩ := h
  refine ⟨by rw [List.length_append, h1]; rfl, Nat.le_trans (item_size hi) h2, ?_⟩
  rw [h3, show n - i = (n - (i + 1)) + 1 by omega, items_step hi]
  cases itemsL kind (n - (i + 1)) r with
  | none => rfl
  | some y => simp
theorem Sofar.fail {kind : Int} {n i : Nat} {s0 s : ByteArray} {pre : List (ByteArray × ByteArray)} (h : Sofar kind n i s0 pre s) (hi : itemL kind s = none) (hlt : i < n) : itemsL kind n s0 = none := by
  obtain ⟨h1, h2, h3⟩ := h
  rw [h3, show n - i = (n - (i + 1)) + 1 by omega, items_fail hi]
  rfl
theorem Sofar.all {kind : Int} {n : Nat} {s0 s : ByteArray} {pre : List (ByteArray × ByteArray)} (h : Sofar kind n n s0 pre s) : itemsL kind n s0 = some (pre, s) := by
  obtain ⟨h1, h2, h3⟩ := h
  rw [h3, Nat.sub_self]
  show some (pre ++ [], s) = _
  rw [List.append_nil]


/-- A message's rows, behind six stores into its block. -/
theorem MgP.six {w : World} {B mb : Nat} {k : Int} {kv ov v0 v1 v2 v3 v4 v5 : Value} {ks : List ByteArray} {os : List ObjL} (h : MgP w B mb k kv ov ks os) :
    (((((((w.setCell ⟨mb, 0, none⟩ v0).setCell ⟨mb, 1, none⟩ v1).setCell ⟨mb, 2, none⟩ v2).setCell ⟨mb, 3, none⟩ v3).setCell ⟨mb, 4, none⟩ v4).setCell ⟨mb, 5, none⟩ v5)).ownsRow B 9 1 kv ks.length (ks.map .string) ∧
    (((((((w.setCell ⟨mb, 0, none⟩ v0).setCell ⟨mb, 1, none⟩ v1).setCell ⟨mb, 2, none⟩ v2).setCell ⟨mb, 3, none⟩ v3).setCell ⟨mb, 4, none⟩ v4).setCell ⟨mb, 5, none⟩ v5)).ownsRow B 40 2 ov os.length (cellsO os) := by
  have hg : w.grownBy (((((((w.setCell ⟨mb, 0, none⟩ v0).setCell ⟨mb, 1, none⟩ v1).setCell ⟨mb, 2, none⟩ v2).setCell ⟨mb, 3, none⟩ v3).setCell ⟨mb, 4, none⟩ v4).setCell ⟨mb, 5, none⟩ v5)) (some mb) :=
    grown_tr (grown_tr (grown_tr (grown_tr (grown_tr (set_grown w ⟨mb, 0, none⟩ v0) (set_grown _ ⟨mb, 1, none⟩ v1)) (set_grown _ ⟨mb, 2, none⟩ v2)) (set_grown _ ⟨mb, 3, none⟩ v3)) (set_grown _ ⟨mb, 4, none⟩ v4)) (set_grown _ ⟨mb, 5, none⟩ v5)
  exact ⟨h.ko.kept hg (.inr (own_apart h.ko h.blk (by decide))), h.oo.kept hg (.inr (own_apart h.oo h.blk (by decide)))⟩
theorem row6k {w : World} {B mb : Nat} {k : Int} {kv ov v0 v1 v2 v3 v4 v5 : Value} {ks : List ByteArray} {os : List ObjL} (h : MgP w B mb k kv ov ks os) :
    Strs (((((((w.setCell ⟨mb, 0, none⟩ v0).setCell ⟨mb, 1, none⟩ v1).setCell ⟨mb, 2, none⟩ v2).setCell ⟨mb, 3, none⟩ v3).setCell ⟨mb, 4, none⟩ v4).setCell ⟨mb, 5, none⟩ v5)) (((((((w.setCell ⟨mb, 0, none⟩ v0).setCell ⟨mb, 1, none⟩ v1).setCell ⟨mb, 2, none⟩ v2).setCell ⟨mb, 3, none⟩ v3).setCell ⟨mb, 4, none⟩ v4).setCell ⟨mb, 5, none⟩ v5)).heap.size kv ks := strs_of_own h.six.1
theorem row6o {w : World} {B mb : Nat} {k : Int} {kv ov v0 v1 v2 v3 v4 v5 : Value} {ks : List ByteArray} {os : List ObjL} (h : MgP w B mb k kv ov ks os) :
    Objs (((((((w.setCell ⟨mb, 0, none⟩ v0).setCell ⟨mb, 1, none⟩ v1).setCell ⟨mb, 2, none⟩ v2).setCell ⟨mb, 3, none⟩ v3).setCell ⟨mb, 4, none⟩ v4).setCell ⟨mb, 5, none⟩ v5)) (((((((w.setCell ⟨mb, 0, none⟩ v0).setCell ⟨mb, 1, none⟩ v1).setCell ⟨mb, 2, none⟩ v2).setCell ⟨mb, 3, none⟩ v3).setCell ⟨mb, 4, none⟩ v4).setCell ⟨mb, 5, none⟩ v5)).heap.size ov os := objs_of_own h.six.2
theorem MgP.on4 {w w' : World} {B mb : Nat} {k : Int} {kv ov : Value} {ks : List ByteArray} {os : List ObjL} (h : MgP w B mb k kv ov ks os) (hb : Below w.heap.size w w') : MgP w' B mb k kv ov ks os := h.on hb


set_option maxRecDepth 100000 in
set_option maxHeartbeats 2000000 in
theorem mes_2 (B rb : Nat) (s : ByteArray) (w : World) (hr : RdAt w rb s) (hB : B ≤ rb) (hBw : B ≤ w.heap.size) (hs : 0 < s.size) (hz : s.size ≤ 1000000) (h1 : byteAt s 0 = 2) :
    Calls Tryd.prog 25 #[.pointer (some ⟨rb, 0, none⟩)] w (MesP B (readM s) w) := by
  have e0 : s.toList.isEmpty = false := by rw [Bool.eq_false_iff, ne_eq, List.isEmpty_iff, str_nil]; omega
  obtain ⟨x1, hx1, hxs, hxb⟩ := first_byte s hs
  have hx0 : (x1[0].toNat : Int) = 2 := by rw [hxb hxs, h1]; rfl
  have HCU := Lib.hid (fun W (hW : RdAt W rb s) => cut_any rb 1 s W hW (by omega) hz)
  rw [← hx1] at HCU
  obtain ⟨r, hrr⟩ : ∃ r, r = s.extract 1 s.size := ⟨_, rfl⟩
  have hrz : r.size ≤ 1000000 := by rw [hrr, ByteArray.size_extract]; omega
  rw [← hrr] at HCU
  have HR0 := Lib.hid hr
  have hl := hr.lt
  have c0 := hr.cell
  have h1' : byteAt s 0 = 2 ∨ byteAt s 0 = 3 := by rw [h1]; decide
  by_cases ht : (takeB r).2.2 ≠ 0 ∨ 4 < (takeB r).1
  case pos =>
    have HM : Hid (readM s = none) := Lib.hid (read_ln s hs h1' (by rw [← hrr]; exact ht))
    have HTX := Lib.hid (fun W (hW : RdAt W rb r) => number_no rb 4 r W hW ht hrz)
    clear hr hx1 hxb hrr ht h1 h1'
    go_enter Tryd.func25, Tryd.ntmps25
    go_wp2_with (first
      | (go_at_call 43; refine Calls.mono (HCU.out _ (HR0.out.on ((Below.refl _ _).alloc (Nat.le_refl _) _))) ?_; rintro e w1 ⟨rfl, h1⟩; have HR1 := Lib.hid h1.1; have HM1 : Hid (MB w1 w.heap.size #[.int .i64 0, .string ⟨#[]⟩, .string ⟨#[]⟩, .slice none 0 0, .slice none 0 0, .int .i64 0]) := Lib.hid (MB.read (heap_alloc_new w _) (HR0.out.on ((Below.refl _ _).alloc (Nat.le_refl _) _)) h1); have HB1 : Hid (Below B w w1) := Lib.hid (((Below.refl _ _).alloc hBw _).trans (rd_below hB (by simp; omega) h1)); have c10 : w1.cell? ⟨w.heap.size, 0, none⟩ = some (.int .i64 0) := HM1.out.cell 0; have f1 := HM1.out.froz 0; have hz1 : B ≤ w1.heap.size := Nat.le_trans hBw HB1.out.size; clear h1)
      | (go_at_call 45; refine Calls.mono (HTX.out _ (HR1.out.msg HM1.out 0 _)) ?_; unfold errV; rintro e w3 ⟨⟨c', rfl⟩, h3⟩; have HM3 := Lib.hid (MB.read (heap_setCell_same w1 w.heap.size 0 _ _ _ HM1.out) (HR1.out.msg HM1.out 0 _) h3); have HR3 := Lib.hid h3.1; have HB3 : Hid (Below B w w3) := Lib.hid ((Below.setCell (p := ⟨w.heap.size, 0, none⟩) HB1.out hBw _).trans (rd_below hB (by simp; omega) h3)); have hz3 : w.heap.size < w3.heap.size := HM3.out.lt; have hr3 : rb < w3.heap.size := HR3.out.lt; have c30 : w3.cell? ⟨w.heap.size, 0, none⟩ = some (.int .i64 2) := HM3.out.cell 0; have f30 := HM3.out.froz 0; have c31 : w3.cell? ⟨w.heap.size, 1, none⟩ = some (.string ⟨#[]⟩) := HM3.out.cell 1; have f31 := HM3.out.froz 1; have c32 : w3.cell? ⟨w.heap.size, 2, none⟩ = some (.string ⟨#[]⟩) := HM3.out.cell 2; have f32 := HM3.out.froz 2; have c33 : w3.cell? ⟨w.heap.size, 3, none⟩ = some (.slice none 0 0) := HM3.out.cell 3; have f33 := HM3.out.froz 3; have c34 : w3.cell? ⟨w.heap.size, 4, none⟩ = some (.slice none 0 0) := HM3.out.cell 4; have f34 := HM3.out.froz 4; have c35 : w3.cell? ⟨w.heap.size, 5, none⟩ = some (.int .i64 0) := HM3.out.cell 5; have f35 := HM3.out.froz 5; have r0 := HR3.out.cell; have rf := HR3.out.froz 0; have hne := HM3.out.ne HR3.out; clear h3))
    refine wp_loop_rounds 1 ?_
    rw [rounds_succ]
    go_wp2_with fail
    refine bodyPost_ret (res_mes rfl rfl (mb6 HM3.out)) rfl ?_
    rw [HM.out]
    exact ⟨⟨_, _, _, rfl, MsgO.bare 2 0 _ _⟩, bel6 HB3.out hBw⟩
  obtain ⟨⟨n, k, c⟩, hq⟩ : ∃ y, y = takeB r := ⟨_, rfl⟩
  rw [← hq] at ht
  dsimp only at ht
  have hc : c = 0 := by
    rcases Nat.eq_zero_or_pos c with h | h
    · exact h
    · exact absurd (.inl (by omega)) ht
  subst hc
  have hn : n ≤ 4 := by
    rcases Nat.lt_or_ge 4 n with h | h
    · exact absurd (.inr h) ht
    · exact h
  have HTX := Lib.hid (fun W (hW : RdAt W rb r) => number_yes rb 4 r n k W hW hq.symm hn (by decide) hrz)
  have HLX := Lib.hid (fun hi => read_lx s n k hs h1' (by rw [← hrr, ← hq]) hn hi)
  have HLY := Lib.hid (fun l z hi => read_ly s n k l z hs h1' (by rw [← hrr, ← hq]) hn hi)
  obtain ⟨s0, hs0⟩ : ∃ s0, s0 = r.extract k r.size := ⟨_, rfl⟩
  have hs0z : s0.size ≤ 1000000 := by rw [hs0, ByteArray.size_extract]; omega
  rw [← hrr, ← hs0, h1] at HLX HLY
  rw [← hs0] at HTX
  clear hr hx1 hxb hrr ht h1 h1' hq hs0
  go_enter Tryd.func25, Tryd.ntmps25
  go_wp2_with (first
    | (go_at_call 43; refine Calls.mono (HCU.out _ (HR0.out.on ((Below.refl _ _).alloc (Nat.le_refl _) _))) ?_; rintro e w1 ⟨rfl, h1⟩; have HR1 := Lib.hid h1.1; have HM1 : Hid (MB w1 w.heap.size #[.int .i64 0, .string ⟨#[]⟩, .string ⟨#[]⟩, .slice none 0 0, .slice none 0 0, .int .i64 0]) := Lib.hid (MB.read (heap_alloc_new w _) (HR0.out.on ((Below.refl _ _).alloc (Nat.le_refl _) _)) h1); have HB1 : Hid (Below B w w1) := Lib.hid (((Below.refl _ _).alloc hBw _).trans (rd_below hB (by simp; omega) h1)); have c10 : w1.cell? ⟨w.heap.size, 0, none⟩ = some (.int .i64 0) := HM1.out.cell 0; have f1 := HM1.out.froz 0; have hz1 : B ≤ w1.heap.size := Nat.le_trans hBw HB1.out.size; clear h1)
    | (go_at_call 45; refine Calls.mono (HTX.out _ (HR1.out.msg HM1.out 0 _)) ?_; rintro e w3 ⟨rfl, h3⟩; have HM3 := Lib.hid (MB.read (heap_setCell_same w1 w.heap.size 0 _ _ _ HM1.out) (HR1.out.msg HM1.out 0 _) h3); have HR3 := Lib.hid h3.1; have HB3 : Hid (Below B w w3) := Lib.hid ((Below.setCell (p := ⟨w.heap.size, 0, none⟩) HB1.out hBw _).trans (rd_below hB (by simp; omega) h3)); have hz3 : w.heap.size < w3.heap.size := HM3.out.lt; have hr3 : rb < w3.heap.size := HR3.out.lt; have c30 : w3.cell? ⟨w.heap.size, 0, none⟩ = some (.int .i64 2) := HM3.out.cell 0; have f30 := HM3.out.froz 0; have c31 : w3.cell? ⟨w.heap.size, 1, none⟩ = some (.string ⟨#[]⟩) := HM3.out.cell 1; have f31 := HM3.out.froz 1; have c32 : w3.cell? ⟨w.heap.size, 2, none⟩ = some (.string ⟨#[]⟩) := HM3.out.cell 2; have f32 := HM3.out.froz 2; have c33 : w3.cell? ⟨w.heap.size, 3, none⟩ = some (.slice none 0 0) := HM3.out.cell 3; have f33 := HM3.out.froz 3; have c34 : w3.cell? ⟨w.heap.size, 4, none⟩ = some (.slice none 0 0) := HM3.out.cell 4; have f34 := HM3.out.froz 4; have c35 : w3.cell? ⟨w.heap.size, 5, none⟩ = some (.int .i64 0) := HM3.out.cell 5; have f35 := HM3.out.froz 5; have r0 := HR3.out.cell; have rf := HR3.out.froz 0; have hne := HM3.out.ne HR3.out; clear h3))
  have HZ : Hid (MgP w3 B w.heap.size 2 (.slice none 0 0) (.slice none 0 0) [] []) := Lib.hid ⟨hBw, HM3.out, World.ownsRow_nil _ _ _ _, World.ownsRow_nil _ _ _ _⟩
  clear c30 c31 c32 c33 c34 c35 f30 f31 f32 f33 f34 f35 r0 rf
  go_loopw [3, 6] (fun ev iv wr => ∃ (i : Nat) (W : World) (s' : ByteArray) (ks : List ByteArray) (os : List ObjL) (kv ov : Value), W = wr ∧ iv = .int .i64 i ∧ i ≤ n ∧ Hid (RdAt W rb s') ∧ Hid (MgP W B w.heap.size 2 kv ov ks os) ∧ Hid (Below B w W) ∧
      (ev = .nilIface ∧ Hid (∃ pre, ks = pre.map (·.1) ∧ os = [] ∧ Sofar 2 n i s0 pre s') ∨ (∃ c, ev = .iface 63 (.agg #[.int .i64 c])) ∧ Hid (itemsL 2 n s0 = none))) (fun _ iv _ => n + 1 - (intOf iv).toNat)
  case atStart => exact ⟨0, _, s0, [], [], _, _, rfl, rfl, Nat.zero_le _, HR3, HZ, HB3, .inl ⟨rfl, Lib.hid ⟨[], rfl, rfl, Sofar.zero _ _ _⟩⟩⟩
  case round =>
    obtain ⟨i, W, s', ks, os, kv, ov, hW, rfl, hin, HRr, HMr, HBr, hdis⟩ := hrel
    subst hW
    obtain ⟨A1, n1, d1, rfl⟩ := own_slice HMr.out.ko
    obtain ⟨A2, n2, d2, rfl⟩ := own_slice HMr.out.oo
    have HMB : Hid (MB W w.heap.size #[.int .i64 2, .string ⟨#[]⟩, .string ⟨#[]⟩, .slice A1 n1 d1, .slice A2 n2 d2, .int .i64 0]) := Lib.hid HMr.out.blk
    have HKS := Lib.hid (strs_of_own HMr.out.ko)
    have HOS := Lib.hid (objs_of_own HMr.out.oo)
    obtain ⟨c30, c31, c32, c33, c34, c35, cf⟩ := HMr.out.cell
    have f30 := cf 0
    have f31 := cf 1
    have f32 := cf 2
    have f33 := cf 3
    have f34 := cf 4
    have f35 := cf 5
    have r0 := HRr.out.cell
    have hzW : w.heap.size < W.heap.size := HMr.out.lt
    have hBW : B ≤ W.heap.size := Nat.le_trans hBw HBr.out.size
    clear cf
    rcases hdis with ⟨rfl, HP⟩ | ⟨⟨c, rfl⟩, HN⟩
    case inr =>
      have HM : Hid (readM s = none) := Lib.hid (HLX.out HN.out)
      by_cases hlt : i < n
      case pos =>
        have j1 : decide ((i : Int) < (n : Int)) = true := decide_eq_true (by omega)
        have j2 : decide (i < n) = true := decide_eq_true hlt
        go_wp2_with fail
        refine bodyPost_ret (res_mes rfl rfl (mb6 HMB.out)) rfl ?_
        rw [HM.out]
        exact ⟨⟨_, _, ⟨2, ⟨#[]⟩, ⟨#[]⟩, ks, os, 0⟩, rfl, ⟨_, _, rfl, HMr.out.six.1, HMr.out.six.2⟩⟩, bel6 HBr.out hBw⟩
      have j1 : decide ((i : Int) < (n : Int)) = false := decide_eq_false (by omega)
      have j2 : decide (i < n) = false := decide_eq_false hlt
      go_wp2_with fail
      refine bodyPost_ret (res_mes rfl rfl (mb6 HMB.out)) rfl ?_
      rw [HM.out]
      exact ⟨⟨_, _, ⟨2, ⟨#[]⟩, ⟨#[]⟩, ks, os, 0⟩, rfl, ⟨_, _, rfl, HMr.out.six.1, HMr.out.six.2⟩⟩, bel6 HBr.out hBw⟩
    by_cases hlt : i < n
    case pos =>
      have j1 : decide ((i : Int) < (n : Int)) = true := decide_eq_true (by omega)
      have j2 : decide (i < n) = true := decide_eq_true hlt
      have hs'z : s'.size ≤ 1000000 := by
        obtain ⟨pre, _, _, h⟩ := HP.out
        have := h.2.1
        omega
      by_cases h32 : s'.size < 32
      case pos =>
        have HFAIL : Hid (itemsL 2 n s0 = none) := Lib.hid (by
          obtain ⟨pre, _, _, h⟩ := HP.out
          exact h.fail (by unfold itemL; rw [if_pos h32]) hlt)
        have HI := Lib.hid (item_short B rb w.heap.size 2 _ _ s' ks os W HRr.out HMr.out h32)
        go_wp2_with (go_at_call 46; refine Calls.mono HI.out ?_; unfold errV; rintro e wi ⟨rfl, hri, ⟨kv', ov', hmi⟩, hbi⟩)
        go_roundw
        case rel => exact ⟨i + 1, _, _, _, _, _, _, rfl, by go_num, by omega, Lib.hid hri, Lib.hid hmi, Lib.hid (HBr.out.trans hbi), .inr ⟨⟨_, rfl⟩, HFAIL⟩⟩
        case measure => simp [intOf]; omega
      have h32' : 32 ≤ s'.size := by omega
      have HI := Lib.hid (item_key B rb w.heap.size _ _ s' ks os W HRr.out HMr.out h32' hs'z hB hBW (by
        obtain ⟨pre, rfl, _, h⟩ := HP.out
        rw [List.length_map, h.1]; omega))
      have HP2 : Hid (∃ pre, ks ++ [s'.extract 0 32] = pre.map (·.1) ∧ os = [] ∧ Sofar 2 n (i + 1) s0 pre (s'.extract 32 s'.size)) := Lib.hid (by
        obtain ⟨pre, rfl, rfl, h⟩ := HP.out
        exact ⟨pre ++ [(s'.extract 0 32, ⟨#[]⟩)], by rw [List.map_append]; rfl, rfl, h.succ (by unfold itemL; rw [if_neg h32, if_pos rfl]) hlt⟩)
      clear h32
      go_wp2_with (go_at_call 46; refine Calls.mono HI.out ?_; rintro e wi ⟨rfl, hri, ⟨kv', ov', hmi⟩, hbi⟩)
      go_roundw
      case rel => exact ⟨i + 1, _, _, _, _, _, _, rfl, by go_num, by omega, Lib.hid hri, Lib.hid hmi, Lib.hid (HBr.out.trans hbi), .inl ⟨rfl, HP2⟩⟩
      case measure => simp [intOf]; omega
    obtain rfl : i = n := by omega
    obtain ⟨pre, hk1, hk2, hsf⟩ := HP.out
    subst hk1
    subst hk2
    have HRM := Lib.hid (HLY.out pre s' hsf.all)
    have HMK : Hid (mkL ((2 : Nat) : Int) pre = ⟨2, ⟨#[]⟩, ⟨#[]⟩, pre.map (·.1), [], 0⟩) := Lib.hid rfl
    rw [HMK.out] at HRM
    have j1 : decide ((i : Int) < (i : Int)) = false := decide_eq_false (by omega)
    clear hsf
    by_cases hl : s'.size = 0
    case neg =>
      have HM : Hid (readM s = none) := Lib.hid (by rw [HRM.out, if_pos hl])
      have z1 : s'.toList.isEmpty = false := by rw [Bool.eq_false_iff, ne_eq, List.isEmpty_iff, str_nil]; omega
      clear hl
      go_wp2_with fail
      refine bodyPost_ret (res_mes rfl rfl (mb6 HMB.out)) rfl ?_
      rw [HM.out]
      exact ⟨⟨_, _, ⟨2, ⟨#[]⟩, ⟨#[]⟩, pre.map (·.1), [], 0⟩, rfl, ⟨_, _, rfl, HMr.out.six.1, HMr.out.six.2⟩⟩, bel6 HBr.out hBw⟩
    have z1 : s'.toList.isEmpty = true := by rw [List.isEmpty_iff, str_nil]; omega
    cases hf : fitL ⟨2, ⟨#[]⟩, ⟨#[]⟩, pre.map (·.1), [], 0⟩ with
    | true =>
      have HM : Hid (readM s = some ⟨2, ⟨#[]⟩, ⟨#[]⟩, pre.map (·.1), [], 0⟩) := Lib.hid (by rw [HRM.out, if_neg (by omega), if_pos hf])
      have HFI := Lib.hid (fun W (hW : MsgV W W.heap.size (.agg #[.int .i64 2, .string ⟨#[]⟩, .string ⟨#[]⟩, .slice A1 n1 d1, .slice A2 n2 d2, .int .i64 0]) ⟨2, ⟨#[]⟩, ⟨#[]⟩, pre.map (·.1), [], 0⟩) => mfit_any _ ⟨2, ⟨#[]⟩, ⟨#[]⟩, pre.map (·.1), [], 0⟩ W true hf hW (by show 0 ≤ _; omega))
      clear hl hf
      go_wp2_with (go_at_call 14; refine Calls.mono (HFI.out _ ⟨_, _, rfl, HKS.out, HOS.out⟩) ?_; rintro e w4 ⟨rfl, hb4⟩; have HB4 : Hid (Below B w w4) := Lib.hid (HBr.out.trans (hb4.mono (Nat.le_trans hBw HBr.out.size))); have HM4 := Lib.hid (HMB.out.on hb4); obtain ⟨hc4, hf4⟩ := bcell hb4; have hz4 : w.heap.size < w4.heap.size := HM4.out.lt; have HKS4 := Lib.hid (HKS.out.on hb4); have HOS4 := Lib.hid (HOS.out.on hb4); have HM4X := Lib.hid hb4; clear hb4)
      refine bodyPost_ret (res_mes rfl rfl (mb6 HM4.out)) rfl ?_
      rw [HM.out]
      exact ⟨⟨_, rfl, ⟨_, _, rfl, (HMr.out.on4 HM4X.out).six.1, (HMr.out.on4 HM4X.out).six.2⟩⟩, bel6 HB4.out hBw⟩
    | false =>
      have HM : Hid (readM s = none) := Lib.hid (by rw [HRM.out, if_neg (by omega), if_neg (by rw [hf]; decide)])
      have HFI := Lib.hid (fun W (hW : MsgV W W.heap.size (.agg #[.int .i64 2, .string ⟨#[]⟩, .string ⟨#[]⟩, .slice A1 n1 d1, .slice A2 n2 d2, .int .i64 0]) ⟨2, ⟨#[]⟩, ⟨#[]⟩, pre.map (·.1), [], 0⟩) => mfit_any _ ⟨2, ⟨#[]⟩, ⟨#[]⟩, pre.map (·.1), [], 0⟩ W false hf hW (by show 0 ≤ _; omega))
      clear hl hf
      go_wp2_with (go_at_call 14; refine Calls.mono (HFI.out _ ⟨_, _, rfl, HKS.out, HOS.out⟩) ?_; rintro e w4 ⟨rfl, hb4⟩; have HB4 : Hid (Below B w w4) := Lib.hid (HBr.out.trans (hb4.mono (Nat.le_trans hBw HBr.out.size))); have HM4 := Lib.hid (HMB.out.on hb4); obtain ⟨hc4, hf4⟩ := bcell hb4; have hz4 : w.heap.size < w4.heap.size := HM4.out.lt; have HKS4 := Lib.hid (HKS.out.on hb4); have HOS4 := Lib.hid (HOS.out.on hb4); have HM4X := Lib.hid hb4; clear hb4)
      refine bodyPost_ret (res_mes rfl rfl (mb6 HM4.out)) rfl ?_
      rw [HM.out]
      exact ⟨⟨_, _, ⟨2, ⟨#[]⟩, ⟨#[]⟩, pre.map (·.1), [], 0⟩, rfl, ⟨_, _, rfl, (HMr.out.on4 HM4X.out).six.1, (HMr.out.on4 HM4X.out).six.2⟩⟩, bel6 HB4.out hBw⟩

set_option maxRecDepth 100000 in
set_option maxHeartbeats 2000000 in
theorem mes_3 (B rb : Nat) (s : ByteArray) (w : World) (hr : RdAt w rb s) (hB : B ≤ rb) (hBw : B ≤ w.heap.size) (hs : 0 < s.size) (hz : s.size ≤ 1000000) (h1 : byteAt s 0 = 3) :
    Calls Tryd.prog 25 #[.pointer (some ⟨rb, 0, none⟩)] w (MesP B (readM s) w) := by
  have e0 : s.toList.isEmpty = false := by rw [Bool.eq_false_iff, ne_eq, List.isEmpty_iff, str_nil]; omega
  obtain ⟨x1, hx1, hxs, hxb⟩ := first_byte s hs
  have hx0 : (x1[0].toNat : Int) = 3 := by rw [hxb hxs, h1]; rfl
  have HCU := Lib.hid (fun W (hW : RdAt W rb s) => cut_any rb 1 s W hW (by omega) hz)
  rw [← hx1] at HCU
  obtain ⟨r, hrr⟩ : ∃ r, r = s.extract 1 s.size := ⟨_, rfl⟩
  have hrz : r.size ≤ 1000000 := by rw [hrr, ByteArray.size_extract]; omega
  rw [← hrr] at HCU
  have HR0 := Lib.hid hr
  have hl := hr.lt
  have c0 := hr.cell
  have h1' : byteAt s 0 = 2 ∨ byteAt s 0 = 3 := by rw [h1]; decide
  by_cases ht : (takeB r).2.2 ≠ 0 ∨ 4 < (takeB r).1
  case pos =>
    have HM : Hid (readM s = none) := Lib.hid (read_ln s hs h1' (by rw [← hrr]; exact ht))
    have HTX := Lib.hid (fun W (hW : RdAt W rb r) => number_no rb 4 r W hW ht hrz)
    clear hr hx1 hxb hrr ht h1 h1'
    go_enter Tryd.func25, Tryd.ntmps25
    go_wp2_with (first
      | (go_at_call 43; refine Calls.mono (HCU.out _ (HR0.out.on ((Below.refl _ _).alloc (Nat.le_refl _) _))) ?_; rintro e w1 ⟨rfl, h1⟩; have HR1 := Lib.hid h1.1; have HM1 : Hid (MB w1 w.heap.size #[.int .i64 0, .string ⟨#[]⟩, .string ⟨#[]⟩, .slice none 0 0, .slice none 0 0, .int .i64 0]) := Lib.hid (MB.read (heap_alloc_new w _) (HR0.out.on ((Below.refl _ _).alloc (Nat.le_refl _) _)) h1); have HB1 : Hid (Below B w w1) := Lib.hid (((Below.refl _ _).alloc hBw _).trans (rd_below hB (by simp; omega) h1)); have c10 : w1.cell? ⟨w.heap.size, 0, none⟩ = some (.int .i64 0) := HM1.out.cell 0; have f1 := HM1.out.froz 0; have hz1 : B ≤ w1.heap.size := Nat.le_trans hBw HB1.out.size; clear h1)
      | (go_at_call 45; refine Calls.mono (HTX.out _ (HR1.out.msg HM1.out 0 _)) ?_; unfold errV; rintro e w3 ⟨⟨c', rfl⟩, h3⟩; have HM3 := Lib.hid (MB.read (heap_setCell_same w1 w.heap.size 0 _ _ _ HM1.out) (HR1.out.msg HM1.out 0 _) h3); have HR3 := Lib.hid h3.1; have HB3 : Hid (Below B w w3) := Lib.hid ((Below.setCell (p := ⟨w.heap.size, 0, none⟩) HB1.out hBw _).trans (rd_below hB (by simp; omega) h3)); have hz3 : w.heap.size < w3.heap.size := HM3.out.lt; have hr3 : rb < w3.heap.size := HR3.out.lt; have c30 : w3.cell? ⟨w.heap.size, 0, none⟩ = some (.int .i64 3) := HM3.out.cell 0; have f30 := HM3.out.froz 0; have c31 : w3.cell? ⟨w.heap.size, 1, none⟩ = some (.string ⟨#[]⟩) := HM3.out.cell 1; have f31 := HM3.out.froz 1; have c32 : w3.cell? ⟨w.heap.size, 2, none⟩ = some (.string ⟨#[]⟩) := HM3.out.cell 2; have f32 := HM3.out.froz 2; have c33 : w3.cell? ⟨w.heap.size, 3, none⟩ = some (.slice none 0 0) := HM3.out.cell 3; have f33 := HM3.out.froz 3; have c34 : w3.cell? ⟨w.heap.size, 4, none⟩ = some (.slice none 0 0) := HM3.out.cell 4; have f34 := HM3.out.froz 4; have c35 : w3.cell? ⟨w.heap.size, 5, none⟩ = some (.int .i64 0) := HM3.out.cell 5; have f35 := HM3.out.froz 5; have r0 := HR3.out.cell; have rf := HR3.out.froz 0; have hne := HM3.out.ne HR3.out; clear h3))
    refine wp_loop_rounds 1 ?_
    rw [rounds_succ]
    go_wp2_with fail
    refine bodyPost_ret (res_mes rfl rfl (mb6 HM3.out)) rfl ?_
    rw [HM.out]
    exact ⟨⟨_, _, _, rfl, MsgO.bare 3 0 _ _⟩, bel6 HB3.out hBw⟩
  obtain ⟨⟨n, k, c⟩, hq⟩ : ∃ y, y = takeB r := ⟨_, rfl⟩
  rw [← hq] at ht
  dsimp only at ht
  have hc : c = 0 := by
    rcases Nat.eq_zero_or_pos c with h | h
    · exact h
    · exact absurd (.inl (by omega)) ht
  subst hc
  have hn : n ≤ 4 := by
    rcases Nat.lt_or_ge 4 n with h | h
    · exact absurd (.inr h) ht
    · exact h
  have HTX := Lib.hid (fun W (hW : RdAt W rb r) => number_yes rb 4 r n k W hW hq.symm hn (by decide) hrz)
  have HLX := Lib.hid (fun hi => read_lx s n k hs h1' (by rw [← hrr, ← hq]) hn hi)
  have HLY := Lib.hid (fun l z hi => read_ly s n k l z hs h1' (by rw [← hrr, ← hq]) hn hi)
  obtain ⟨s0, hs0⟩ : ∃ s0, s0 = r.extract k r.size := ⟨_, rfl⟩
  have hs0z : s0.size ≤ 1000000 := by rw [hs0, ByteArray.size_extract]; omega
  rw [← hrr, ← hs0, h1] at HLX HLY
  rw [← hs0] at HTX
  clear hr hx1 hxb hrr ht h1 h1' hq hs0
  go_enter Tryd.func25, Tryd.ntmps25
  go_wp2_with (first
    | (go_at_call 43; refine Calls.mono (HCU.out _ (HR0.out.on ((Below.refl _ _).alloc (Nat.le_refl _) _))) ?_; rintro e w1 ⟨rfl, h1⟩; have HR1 := Lib.hid h1.1; have HM1 : Hid (MB w1 w.heap.size #[.int .i64 0, .string ⟨#[]⟩, .string ⟨#[]⟩, .slice none 0 0, .slice none 0 0, .int .i64 0]) := Lib.hid (MB.read (heap_alloc_new w _) (HR0.out.on ((Below.refl _ _).alloc (Nat.le_refl _) _)) h1); have HB1 : Hid (Below B w w1) := Lib.hid (((Below.refl _ _).alloc hBw _).trans (rd_below hB (by simp; omega) h1)); have c10 : w1.cell? ⟨w.heap.size, 0, none⟩ = some (.int .i64 0) := HM1.out.cell 0; have f1 := HM1.out.froz 0; have hz1 : B ≤ w1.heap.size := Nat.le_trans hBw HB1.out.size; clear h1)
    | (go_at_call 45; refine Calls.mono (HTX.out _ (HR1.out.msg HM1.out 0 _)) ?_; rintro e w3 ⟨rfl, h3⟩; have HM3 := Lib.hid (MB.read (heap_setCell_same w1 w.heap.size 0 _ _ _ HM1.out) (HR1.out.msg HM1.out 0 _) h3); have HR3 := Lib.hid h3.1; have HB3 : Hid (Below B w w3) := Lib.hid ((Below.setCell (p := ⟨w.heap.size, 0, none⟩) HB1.out hBw _).trans (rd_below hB (by simp; omega) h3)); have hz3 : w.heap.size < w3.heap.size := HM3.out.lt; have hr3 : rb < w3.heap.size := HR3.out.lt; have c30 : w3.cell? ⟨w.heap.size, 0, none⟩ = some (.int .i64 3) := HM3.out.cell 0; have f30 := HM3.out.froz 0; have c31 : w3.cell? ⟨w.heap.size, 1, none⟩ = some (.string ⟨#[]⟩) := HM3.out.cell 1; have f31 := HM3.out.froz 1; have c32 : w3.cell? ⟨w.heap.size, 2, none⟩ = some (.string ⟨#[]⟩) := HM3.out.cell 2; have f32 := HM3.out.froz 2; have c33 : w3.cell? ⟨w.heap.size, 3, none⟩ = some (.slice none 0 0) := HM3.out.cell 3; have f33 := HM3.out.froz 3; have c34 : w3.cell? ⟨w.heap.size, 4, none⟩ = some (.slice none 0 0) := HM3.out.cell 4; have f34 := HM3.out.froz 4; have c35 : w3.cell? ⟨w.heap.size, 5, none⟩ = some (.int .i64 0) := HM3.out.cell 5; have f35 := HM3.out.froz 5; have r0 := HR3.out.cell; have rf := HR3.out.froz 0; have hne := HM3.out.ne HR3.out; clear h3))
  have HZ : Hid (MgP w3 B w.heap.size 3 (.slice none 0 0) (.slice none 0 0) [] []) := Lib.hid ⟨hBw, HM3.out, World.ownsRow_nil _ _ _ _, World.ownsRow_nil _ _ _ _⟩
  clear c30 c31 c32 c33 c34 c35 f30 f31 f32 f33 f34 f35 r0 rf
  go_loopw [3, 6] (fun ev iv wr => ∃ (i : Nat) (W : World) (s' : ByteArray) (ks : List ByteArray) (os : List ObjL) (kv ov : Value), W = wr ∧ iv = .int .i64 i ∧ i ≤ n ∧ Hid (RdAt W rb s') ∧ Hid (MgP W B w.heap.size 3 kv ov ks os) ∧ Hid (Below B w W) ∧
      (ev = .nilIface ∧ Hid (∃ pre, ks = [] ∧ os = pre ∧ Sofar 3 n i s0 pre s') ∨ (∃ c, ev = .iface 63 (.agg #[.int .i64 c])) ∧ Hid (itemsL 3 n s0 = none))) (fun _ iv _ => n + 1 - (intOf iv).toNat)
  case atStart => exact ⟨0, _, s0, [], [], _, _, rfl, rfl, Nat.zero_le _, HR3, HZ, HB3, .inl ⟨rfl, Lib.hid ⟨[], rfl, rfl, Sofar.zero _ _ _⟩⟩⟩
  case round =>
    obtain ⟨i, W, s', ks, os, kv, ov, hW, rfl, hin, HRr, HMr, HBr, hdis⟩ := hrel
    subst hW
    obtain ⟨A1, n1, d1, rfl⟩ := own_slice HMr.out.ko
    obtain ⟨A2, n2, d2, rfl⟩ := own_slice HMr.out.oo
    have HMB : Hid (MB W w.heap.size #[.int .i64 3, .string ⟨#[]⟩, .string ⟨#[]⟩, .slice A1 n1 d1, .slice A2 n2 d2, .int .i64 0]) := Lib.hid HMr.out.blk
    have HKS := Lib.hid (strs_of_own HMr.out.ko)
    have HOS := Lib.hid (objs_of_own HMr.out.oo)
    obtain ⟨c30, c31, c32, c33, c34, c35, cf⟩ := HMr.out.cell
    have f30 := cf 0
    have f31 := cf 1
    have f32 := cf 2
    have f33 := cf 3
    have f34 := cf 4
    have f35 := cf 5
    have r0 := HRr.out.cell
    have hzW : w.heap.size < W.heap.size := HMr.out.lt
    have hBW : B ≤ W.heap.size := Nat.le_trans hBw HBr.out.size
    clear cf
    rcases hdis with ⟨rfl, HP⟩ | ⟨⟨c, rfl⟩, HN⟩
    case inr =>
      have HM : Hid (readM s = none) := Lib.hid (HLX.out HN.out)
      by_cases hlt : i < n
      case pos =>
        have j1 : decide ((i : Int) < (n : Int)) = true := decide_eq_true (by omega)
        have j2 : decide (i < n) = true := decide_eq_true hlt
        go_wp2_with fail
        refine bodyPost_ret (res_mes rfl rfl (mb6 HMB.out)) rfl ?_
        rw [HM.out]
        exact ⟨⟨_, _, ⟨3, ⟨#[]⟩, ⟨#[]⟩, ks, os, 0⟩, rfl, ⟨_, _, rfl, HMr.out.six.1, HMr.out.six.2⟩⟩, bel6 HBr.out hBw⟩
      have j1 : decide ((i : Int) < (n : Int)) = false := decide_eq_false (by omega)
      have j2 : decide (i < n) = false := decide_eq_false hlt
      go_wp2_with fail
      refine bodyPost_ret (res_mes rfl rfl (mb6 HMB.out)) rfl ?_
      rw [HM.out]
      exact ⟨⟨_, _, ⟨3, ⟨#[]⟩, ⟨#[]⟩, ks, os, 0⟩, rfl, ⟨_, _, rfl, HMr.out.six.1, HMr.out.six.2⟩⟩, bel6 HBr.out hBw⟩
    by_cases hlt : i < n
    case pos =>
      have j1 : decide ((i : Int) < (n : Int)) = true := decide_eq_true (by omega)
      have j2 : decide (i < n) = true := decide_eq_true hlt
      have hs'z : s'.size ≤ 1000000 := by
        obtain ⟨pre, _, _, h⟩ := HP.out
        have := h.2.1
        omega
      by_cases h32 : s'.size < 32
      case pos =>
        have HFAIL : Hid (itemsL 3 n s0 = none) := Lib.hid (by
          obtain ⟨pre, _, _, h⟩ := HP.out
          exact h.fail (by unfold itemL; rw [if_pos h32]) hlt)
        have HI := Lib.hid (item_short B rb w.heap.size 3 _ _ s' ks os W HRr.out HMr.out h32)
        go_wp2_with (go_at_call 46; refine Calls.mono HI.out ?_; unfold errV; rintro e wi ⟨rfl, hri, ⟨kv', ov', hmi⟩, hbi⟩)
        go_roundw
        case rel => exact ⟨i + 1, _, _, _, _, _, _, rfl, by go_num, by omega, Lib.hid hri, Lib.hid hmi, Lib.hid (HBr.out.trans hbi), .inr ⟨⟨_, rfl⟩, HFAIL⟩⟩
        case measure => simp [intOf]; omega
      have h32' : 32 ≤ s'.size := by omega
      have HLO : Hid (os.length ≤ 100) := Lib.hid (by
        obtain ⟨pre, _, rfl, h⟩ := HP.out
        rw [h.1]; omega)
      by_cases htt : (takeT (s'.extract 32 s'.size)).2.2 = 0
      case neg =>
        have HFAIL : Hid (itemsL 3 n s0 = none) := Lib.hid (by
          obtain ⟨pre, _, _, h⟩ := HP.out
          exact h.fail (by unfold itemL; rw [if_neg h32, if_neg (by decide), if_pos htt]) hlt)
        have HI := Lib.hid (item_torn B rb w.heap.size _ _ s' ks os W HRr.out HMr.out h32' hs'z hB hBW HLO.out htt)
        clear h32 htt
        go_wp2_with (go_at_call 46; refine Calls.mono HI.out ?_; unfold errV; rintro e wi ⟨c, rfl, hri, ⟨kv', ov', hmi⟩, hbi⟩)
        go_roundw
        case rel => exact ⟨i + 1, _, _, _, _, _, _, rfl, by go_num, by omega, Lib.hid hri, Lib.hid hmi, Lib.hid (HBr.out.trans hbi), .inr ⟨⟨_, rfl⟩, HFAIL⟩⟩
        case measure => simp [intOf]; omega
      obtain ⟨⟨t, j, c⟩, hx⟩ : ∃ x, x = takeT (s'.extract 32 s'.size) := ⟨_, rfl⟩
      rw [← hx] at htt
      dsimp only at htt
      subst htt
      have htj := hx.symm
      have HI := Lib.hid (item_obj B rb w.heap.size _ _ s' t j ks os W HRr.out HMr.out h32' hs'z hB hBW HLO.out htj)
      have HP2 : Hid (∃ pre, ks = [] ∧ os ++ [(s'.extract 0 32, t)] = pre ∧ Sofar 3 n (i + 1) s0 pre ((s'.extract 32 s'.size).extract j (s'.extract 32 s'.size).size)) := Lib.hid (by
        obtain ⟨pre, rfl, rfl, h⟩ := HP.out
        exact ⟨os ++ [(s'.extract 0 32, t)], rfl, rfl, h.succ (by unfold itemL; rw [if_neg h32, if_neg (by decide), htj, if_neg (by simp)]) hlt⟩)
      clear h32 hx htj
      go_wp2_with (go_at_call 46; refine Calls.mono HI.out ?_; rintro e wi ⟨rfl, hri, ⟨kv', ov', hmi⟩, hbi⟩)
      go_roundw
      case rel => exact ⟨i + 1, _, _, _, _, _, _, rfl, by go_num, by omega, Lib.hid hri, Lib.hid hmi, Lib.hid (HBr.out.trans hbi), .inl ⟨rfl, HP2⟩⟩
      case measure => simp [intOf]; omega
    obtain rfl : i = n := by omega
    obtain ⟨pre, hk1, hk2, hsf⟩ := HP.out
    subst hk1
    have hk3 := hk2.symm
    subst hk3
    have HRM := Lib.hid (HLY.out pre s' hsf.all)
    have HMK : Hid (mkL ((3 : Nat) : Int) pre = ⟨3, ⟨#[]⟩, ⟨#[]⟩, [], pre, 0⟩) := Lib.hid rfl
    rw [HMK.out] at HRM
    have j1 : decide ((i : Int) < (i : Int)) = false := decide_eq_false (by omega)
    clear hsf
    by_cases hl : s'.size = 0
    case neg =>
      have HM : Hid (readM s = none) := Lib.hid (by rw [HRM.out, if_pos hl])
      have z1 : s'.toList.isEmpty = false := by rw [Bool.eq_false_iff, ne_eq, List.isEmpty_iff, str_nil]; omega
      clear hl
      go_wp2_with fail
      refine bodyPost_ret (res_mes rfl rfl (mb6 HMB.out)) rfl ?_
      rw [HM.out]
      exact ⟨⟨_, _, ⟨3, ⟨#[]⟩, ⟨#[]⟩, [], pre, 0⟩, rfl, ⟨_, _, rfl, HMr.out.six.1, HMr.out.six.2⟩⟩, bel6 HBr.out hBw⟩
    have z1 : s'.toList.isEmpty = true := by rw [List.isEmpty_iff, str_nil]; omega
    cases hf : fitL ⟨3, ⟨#[]⟩, ⟨#[]⟩, [], pre, 0⟩ with
    | true =>
      have HM : Hid (readM s = some ⟨3, ⟨#[]⟩, ⟨#[]⟩, [], pre, 0⟩) := Lib.hid (by rw [HRM.out, if_neg (by omega), if_pos hf])
      have HFI := Lib.hid (fun W (hW : MsgV W W.heap.size (.agg #[.int .i64 3, .string ⟨#[]⟩, .string ⟨#[]⟩, .slice A1 n1 d1, .slice A2 n2 d2, .int .i64 0]) ⟨3, ⟨#[]⟩, ⟨#[]⟩, [], pre, 0⟩) => mfit_any _ ⟨3, ⟨#[]⟩, ⟨#[]⟩, [], pre, 0⟩ W true hf hW (by show 0 ≤ _; omega))
      clear hl hf
      go_wp2_with (go_at_call 14; refine Calls.mono (HFI.out _ ⟨_, _, rfl, HKS.out, HOS.out⟩) ?_; rintro e w4 ⟨rfl, hb4⟩; have HB4 : Hid (Below B w w4) := Lib.hid (HBr.out.trans (hb4.mono (Nat.le_trans hBw HBr.out.size))); have HM4 := Lib.hid (HMB.out.on hb4); obtain ⟨hc4, hf4⟩ := bcell hb4; have hz4 : w.heap.size < w4.heap.size := HM4.out.lt; have HKS4 := Lib.hid (HKS.out.on hb4); have HOS4 := Lib.hid (HOS.out.on hb4); have HM4X := Lib.hid hb4; clear hb4)
      refine bodyPost_ret (res_mes rfl rfl (mb6 HM4.out)) rfl ?_
      rw [HM.out]
      exact ⟨⟨_, rfl, ⟨_, _, rfl, (HMr.out.on4 HM4X.out).six.1, (HMr.out.on4 HM4X.out).six.2⟩⟩, bel6 HB4.out hBw⟩
    | false =>
      have HM : Hid (readM s = none) := Lib.hid (by rw [HRM.out, if_neg (by omega), if_neg (by rw [hf]; decide)])
      have HFI := Lib.hid (fun W (hW : MsgV W W.heap.size (.agg #[.int .i64 3, .string ⟨#[]⟩, .string ⟨#[]⟩, .slice A1 n1 d1, .slice A2 n2 d2, .int .i64 0]) ⟨3, ⟨#[]⟩, ⟨#[]⟩, [], pre, 0⟩) => mfit_any _ ⟨3, ⟨#[]⟩, ⟨#[]⟩, [], pre, 0⟩ W false hf hW (by show 0 ≤ _; omega))
      clear hl hf
      go_wp2_with (go_at_call 14; refine Calls.mono (HFI.out _ ⟨_, _, rfl, HKS.out, HOS.out⟩) ?_; rintro e w4 ⟨rfl, hb4⟩; have HB4 : Hid (Below B w w4) := Lib.hid (HBr.out.trans (hb4.mono (Nat.le_trans hBw HBr.out.size))); have HM4 := Lib.hid (HMB.out.on hb4); obtain ⟨hc4, hf4⟩ := bcell hb4; have hz4 : w.heap.size < w4.heap.size := HM4.out.lt; have HKS4 := Lib.hid (HKS.out.on hb4); have HOS4 := Lib.hid (HOS.out.on hb4); have HM4X := Lib.hid hb4; clear hb4)
      refine bodyPost_ret (res_mes rfl rfl (mb6 HM4.out)) rfl ?_
      rw [HM.out]
      exact ⟨⟨_, _, ⟨3, ⟨#[]⟩, ⟨#[]⟩, [], pre, 0⟩, rfl, ⟨_, _, rfl, (HMr.out.on4 HM4X.out).six.1, (HMr.out.on4 HM4X.out).six.2⟩⟩, bel6 HB4.out hBw⟩


end Go.Proofs.YthlajcohbpjgkaaDoor
