/-
  The document's list. (Printed by genlst.py.)
-/
import Derived.Test.YthlajcohbpjgkaaDoorMOff
namespace Go.Proofs.YthlajcohbpjgkaaDoor
open Go.RowKit Go.Shelf Go.Proofs.Mem
set_option linter.unusedVariables false

theorem lk_key {w w2 w3 : World} {B mb g cap : Nat} {k : Int} {kv ov : Value} {ks : List ByteArray} {os : List ObjL} {x : ByteArray} (h : MgP w B mb k kv ov ks os) (hBw : B ≤ w.heap.size)
    (h01 : Below w.heap.size w w2) (hg : w2.grownBy w3 kv.ownBlock) (hown : w3.ownsRow B 9 1 (.slice (some ⟨g, 0, none⟩) (ks.length + 1) cap) (ks.length + 1) (ks.map .string ++ [.string x])) :
    MgP (w3.setCell ⟨mb, 3, none⟩ (.slice (some ⟨g, 0, none⟩) (ks.length + 1) cap)) B mb k (.slice (some ⟨g, 0, none⟩) (ks.length + 1) cap) ov (ks ++ [x]) os ∧ Below B w (w3.setCell ⟨mb, 3, none⟩ (.slice (some ⟨g, 0, none⟩) (ks.length + 1) cap)) := by
  have h2 := h.on h01
  have b3 : w3.heap[mb]? = some (.cells #[.int .i64 k, .string ⟨#[]⟩, .string ⟨#[]⟩, kv, ov, .int .i64 0] 26 (0, 0)) := (hg.block mb h2.lt (own_apart h2.ko h2.blk (by decide)).symm).trans h2.blk
  have o3 := h2.oo.kept hg (own_two h2.ko h2.oo (by decide))
  have hs := set_grown w3 ⟨mb, 3, none⟩ (.slice (some ⟨g, 0, none⟩) (ks.length + 1) cap)
  refine ⟨⟨h.hB, heap_setCell_same w3 mb 3 _ _ _ b3, ?_, o3.kept hs (.inr (own_apart o3 b3 (by decide)))⟩, ?_⟩
  · rw [List.length_append, List.map_append]
    exact hown.kept hs (.inr (own_apart hown b3 (by decide)))
  · refine Below.setCell (p := ⟨mb, 3, none⟩) ?_ h.hB _
    exact (h01.mono hBw).grown hg (Nat.le_trans hBw h01.size) (fun q e => (h2.ko.lt q e).1)
theorem lk_obj {w w2 w3 : World} {B mb g cap : Nat} {k : Int} {kv ov : Value} {ks : List ByteArray} {os : List ObjL} {x : ObjL} (h : MgP w B mb k kv ov ks os) (hBw : B ≤ w.heap.size)
    (h01 : Below w.heap.size w w2) (hg : w2.grownBy w3 ov.ownBlock) (hown : w3.ownsRow B 40 2 (.slice (some ⟨g, 0, none⟩) (os.length + 1) cap) (os.length + 1) (cellsO os ++ [.string x.1, .string x.2])) :
    MgP (w3.setCell ⟨mb, 4, none⟩ (.slice (some ⟨g, 0, none⟩) (os.length + 1) cap)) B mb k kv (.slice (some ⟨g, 0, none⟩) (os.length + 1) cap) ks (os ++ [x]) ∧ Below B w (w3.setCell ⟨mb, 4, none⟩ (.slice (some ⟨g, 0, none⟩) (os.length + 1) cap)) := by
  have h2 := h.on h01
  have b3 : w3.heap[mb]? = some (.cells #[.int .i64 k, .string ⟨#[]⟩, .string ⟨#[]⟩, kv, ov, .int .i64 0] 26 (0, 0)) := (hg.block mb h2.lt (own_apart h2.oo h2.blk (by decide)).symm).trans h2.blk
  have k3 := h2.ko.kept hg (own_two h2.oo h2.ko (by decide))
  have hs := set_grown w3 ⟨mb, 4, none⟩ (.slice (some ⟨g, 0, none⟩) (os.length + 1) cap)
  refine ⟨⟨h.hB, heap_setCell_same w3 mb 4 _ _ _ b3, k3.kept hs (.inr (own_apart k3 b3 (by decide))), ?_⟩, ?_⟩
  · rw [List.length_append, cellsO_snoc]
    exact hown.kept hs (.inr (own_apart hown b3 (by decide)))
  · refine Below.setCell (p := ⟨mb, 4, none⟩) ?_ h.hB _
    exact (h01.mono hBw).grown hg (Nat.le_trans hBw h01.size) (fun q e => (h2.oo.lt q e).1)

def listL (kind : Int) (s : ByteArray) : Option (List (ByteArray × ByteArray) × ByteArray) :=
  if (takeB s).2.2 ≠ 0 ∨ 4 < (takeB s).1 then none else itemsL kind (takeB s).1 (s.extract (takeB s).2.1 s.size)
def LstP (kind : Int) (o : Option (List (ByteArray × ByteArray) × ByteArray)) (w : World) (e : Ending) (w' : World) : Prop :=
  (match o with
    | some y => ∃ v, e = .returned (.tuple #[v, .bool true]) ∧ MsgO w' (w.heap.size + 1) v (mkL kind y.1)
    | none => ∃ v m, e = .returned (.tuple #[v, .bool false]) ∧ MsgO w' (w.heap.size + 1) v m) ∧ Below w.heap.size w w'
theorem res_list {tmps : Array Value} {W : World} {b : Nat} {k er : Int} {c : Bool} {A1 A2 : Option Addr} {n1 n2 d1 d2 : Nat} {t1 t2 : ByteArray} (h2 : tmps.getD 4 undef = .pointer (some ⟨b, 0, none⟩)) (h3 : tmps.getD 5 undef = .bool c)
    (hM : MB W b #[.int .i64 k, .string t1, .string t2, .slice A1 n1 d1, .slice A2 n2 d2, .int .i64 er]) :
    (results Tryd.f29 tmps).run Tryd.prog W = .ok (.tuple #[.agg #[.int .i64 k, .string t1, .string t2, .slice A1 n1 d1, .slice A2 n2 d2, .int .i64 er], .bool c]) W := by
  have q0 : W.cell? ⟨b, 0, none⟩ = some (.int .i64 k) := hM.cell 0
  have q1 : W.cell? ⟨b, 1, none⟩ = some (.string t1) := hM.cell 1
  have q2 : W.cell? ⟨b, 2, none⟩ = some (.string t2) := hM.cell 2
  have q3 : W.cell? ⟨b, 3, none⟩ = some (.slice A1 n1 d1) := hM.cell 3
  have q4 : W.cell? ⟨b, 4, none⟩ = some (.slice A2 n2 d2) := hM.cell 4
  have q5 : W.cell? ⟨b, 5, none⟩ = some (.int .i64 er) := hM.cell 5
  rw [Array.getD_eq_getD_getElem?] at h2 h3
  simp only [results, Tryd.f29]
  go_simp

set_option maxRecDepth 100000 in
set_option maxHeartbeats 4000000 in
theorem list_2 (s : ByteArray) (w : World) (hz : s.size ≤ 1000000) :
    Calls Tryd.prog 29 #[.string s, .int .i64 2] w (LstP 2 (listL 2 s) w) := by
  have HT := Lib.hid (fun W => rtake_any s W hz)
  have hle := takeB_end s
  have HO : Hid (listL 2 s = if (takeB s).2.2 ≠ 0 ∨ 4 < (takeB s).1 then none else itemsL 2 (takeB s).1 (s.extract (takeB s).2.1 s.size)) := Lib.hid rfl
  obtain ⟨⟨n, k, c⟩, ht⟩ : ∃ t, t = takeB s := ⟨_, rfl⟩
  rw [← ht] at HT hle HO
  clear ht
  dsimp only at HT hle HO
  have i0 : (0 : Int) ≤ (k : Int) := by omega
  have i1 : (k : Int) ≤ (s.size : Int) := by omega
  by_cases hc : c = 0
  case neg =>
    have HLN : Hid (listL 2 s = none) := Lib.hid (by rw [HO.out, if_pos (.inl hc)])
    have c1 : ((c : Int) == 0) = false := by rw [beq_eq_false_iff_ne]; omega
    have c2 : ¬ (c : Int) = 0 := by omega
    clear hc HO
    go_enter Tryd.func29, Tryd.ntmps29
    go_wp2_with (go_at_call 30; refine Calls.mono (HT.out _) ?_; unfold tripV; rintro e w2 ⟨rfl, hb2⟩; have HN2 : Hid (MB w2 (w.heap.size + 1) #[.int .i64 2, .string ⟨#[]⟩, .string ⟨#[]⟩, .slice none 0 0, .slice none 0 0, .int .i64 0]) := Lib.hid (MB.on (by have h := heap_alloc_new (w.alloc (.cells #[.int .i64 0, .string ⟨#[]⟩, .string ⟨#[]⟩, .slice none 0 0, .slice none 0 0, .int .i64 0] 26)) (.cells #[.int .i64 2, .string ⟨#[]⟩, .string ⟨#[]⟩, .slice none 0 0, .slice none 0 0, .int .i64 0] 26); simpa [MB] using h) hb2); have HM2 : Hid (MB w2 w.heap.size #[.int .i64 0, .string ⟨#[]⟩, .string ⟨#[]⟩, .slice none 0 0, .slice none 0 0, .int .i64 0]) := Lib.hid ((hb2.block w.heap.size (by simp; omega)).trans ((Lib.alloc_old _ _ _ (by simp)).trans (heap_alloc_new w _))); have hz2 : w.heap.size < w2.heap.size := HM2.out.lt; have hy2 : w.heap.size + 1 < w2.heap.size := HN2.out.lt; have HB2 : Hid (Below w.heap.size w w2) := Lib.hid (bel (by go_grown) hb2); have pc0 : w2.cell? ⟨w.heap.size, 0, none⟩ = some (.int .i64 0) := HM2.out.cell 0; have pf0 := HM2.out.froz 0; have pc1 : w2.cell? ⟨w.heap.size, 1, none⟩ = some (.string ⟨#[]⟩) := HM2.out.cell 1; have pf1 := HM2.out.froz 1; have pc2 : w2.cell? ⟨w.heap.size, 2, none⟩ = some (.string ⟨#[]⟩) := HM2.out.cell 2; have pf2 := HM2.out.froz 2; have pc3 : w2.cell? ⟨w.heap.size, 3, none⟩ = some (.slice none 0 0) := HM2.out.cell 3; have pf3 := HM2.out.froz 3; have pc4 : w2.cell? ⟨w.heap.size, 4, none⟩ = some (.slice none 0 0) := HM2.out.cell 4; have pf4 := HM2.out.froz 4; have pc5 : w2.cell? ⟨w.heap.size, 5, none⟩ = some (.int .i64 0) := HM2.out.cell 5; have pf5 := HM2.out.froz 5; have qc0 : w2.cell? ⟨w.heap.size + 1, 0, none⟩ = some (.int .i64 2) := HN2.out.cell 0; have qf0 := HN2.out.froz 0; have qc1 : w2.cell? ⟨w.heap.size + 1, 1, none⟩ = some (.string ⟨#[]⟩) := HN2.out.cell 1; have qf1 := HN2.out.froz 1; have qc2 : w2.cell? ⟨w.heap.size + 1, 2, none⟩ = some (.string ⟨#[]⟩) := HN2.out.cell 2; have qf2 := HN2.out.froz 2; have qc3 : w2.cell? ⟨w.heap.size + 1, 3, none⟩ = some (.slice none 0 0) := HN2.out.cell 3; have qf3 := HN2.out.froz 3; have qc4 : w2.cell? ⟨w.heap.size + 1, 4, none⟩ = some (.slice none 0 0) := HN2.out.cell 4; have qf4 := HN2.out.froz 4; have qc5 : w2.cell? ⟨w.heap.size + 1, 5, none⟩ = some (.int .i64 0) := HN2.out.cell 5; have qf5 := HN2.out.froz 5; clear hb2)
    refine bodyPost_ret (res_list rfl rfl (mb6 HM2.out)) rfl ?_
    exact ⟨by rw [HLN.out]; exact ⟨_, ⟨2, ⟨#[]⟩, ⟨#[]⟩, [], [], 0⟩, rfl, MsgO.bare 2 0 _ _⟩, bel6 HB2.out (Nat.le_refl _)⟩
  subst hc
  by_cases hn : 4 < n
  case pos =>
    have HLN : Hid (listL 2 s = none) := Lib.hid (by rw [HO.out, if_pos (.inr hn)])
    have n1 : decide (4 < (n : Int)) = true := decide_eq_true (by omega)
    have n2 : decide (4 < n) = true := decide_eq_true hn
    clear hn HO
    go_enter Tryd.func29, Tryd.ntmps29
    go_wp2_with (go_at_call 30; refine Calls.mono (HT.out _) ?_; unfold tripV; rintro e w2 ⟨rfl, hb2⟩; have HN2 : Hid (MB w2 (w.heap.size + 1) #[.int .i64 2, .string ⟨#[]⟩, .string ⟨#[]⟩, .slice none 0 0, .slice none 0 0, .int .i64 0]) := Lib.hid (MB.on (by have h := heap_alloc_new (w.alloc (.cells #[.int .i64 0, .string ⟨#[]⟩, .string ⟨#[]⟩, .slice none 0 0, .slice none 0 0, .int .i64 0] 26)) (.cells #[.int .i64 2, .string ⟨#[]⟩, .string ⟨#[]⟩, .slice none 0 0, .slice none 0 0, .int .i64 0] 26); simpa [MB] using h) hb2); have HM2 : Hid (MB w2 w.heap.size #[.int .i64 0, .string ⟨#[]⟩, .string ⟨#[]⟩, .slice none 0 0, .slice none 0 0, .int .i64 0]) := Lib.hid ((hb2.block w.heap.size (by simp; omega)).trans ((Lib.alloc_old _ _ _ (by simp)).trans (heap_alloc_new w _))); have hz2 : w.heap.size < w2.heap.size := HM2.out.lt; have hy2 : w.heap.size + 1 < w2.heap.size := HN2.out.lt; have HB2 : Hid (Below w.heap.size w w2) := Lib.hid (bel (by go_grown) hb2); have pc0 : w2.cell? ⟨w.heap.size, 0, none⟩ = some (.int .i64 0) := HM2.out.cell 0; have pf0 := HM2.out.froz 0; have pc1 : w2.cell? ⟨w.heap.size, 1, none⟩ = some (.string ⟨#[]⟩) := HM2.out.cell 1; have pf1 := HM2.out.froz 1; have pc2 : w2.cell? ⟨w.heap.size, 2, none⟩ = some (.string ⟨#[]⟩) := HM2.out.cell 2; have pf2 := HM2.out.froz 2; have pc3 : w2.cell? ⟨w.heap.size, 3, none⟩ = some (.slice none 0 0) := HM2.out.cell 3; have pf3 := HM2.out.froz 3; have pc4 : w2.cell? ⟨w.heap.size, 4, none⟩ = some (.slice none 0 0) := HM2.out.cell 4; have pf4 := HM2.out.froz 4; have pc5 : w2.cell? ⟨w.heap.size, 5, none⟩ = some (.int .i64 0) := HM2.out.cell 5; have pf5 := HM2.out.froz 5; have qc0 : w2.cell? ⟨w.heap.size + 1, 0, none⟩ = some (.int .i64 2) := HN2.out.cell 0; have qf0 := HN2.out.froz 0; have qc1 : w2.cell? ⟨w.heap.size + 1, 1, none⟩ = some (.string ⟨#[]⟩) := HN2.out.cell 1; have qf1 := HN2.out.froz 1; have qc2 : w2.cell? ⟨w.heap.size + 1, 2, none⟩ = some (.string ⟨#[]⟩) := HN2.out.cell 2; have qf2 := HN2.out.froz 2; have qc3 : w2.cell? ⟨w.heap.size + 1, 3, none⟩ = some (.slice none 0 0) := HN2.out.cell 3; have qf3 := HN2.out.froz 3; have qc4 : w2.cell? ⟨w.heap.size + 1, 4, none⟩ = some (.slice none 0 0) := HN2.out.cell 4; have qf4 := HN2.out.froz 4; have qc5 : w2.cell? ⟨w.heap.size + 1, 5, none⟩ = some (.int .i64 0) := HN2.out.cell 5; have qf5 := HN2.out.froz 5; clear hb2)
    refine bodyPost_ret (res_list rfl rfl (mb6 HM2.out)) rfl ?_
    exact ⟨by rw [HLN.out]; exact ⟨_, ⟨2, ⟨#[]⟩, ⟨#[]⟩, [], [], 0⟩, rfl, MsgO.bare 2 0 _ _⟩, bel6 HB2.out (Nat.le_refl _)⟩
  have HLI : Hid (listL 2 s = itemsL 2 n (s.extract k s.size)) := Lib.hid (by rw [HO.out, if_neg (by omega)])
  have hn4 : n ≤ 4 := by omega
  have n1 : decide (4 < (n : Int)) = false := decide_eq_false (by omega)
  have n2 : decide (4 < n) = false := decide_eq_false hn
  obtain ⟨s0, hs0⟩ : ∃ s0, s0 = s.extract k s.size := ⟨_, rfl⟩
  have hs0z : s0.size ≤ 1000000 := by rw [hs0, ByteArray.size_extract]; omega
  rw [← hs0] at HLI
  have HS0 := Lib.hid hs0
  clear hn HO hs0
  obtain ⟨i0', hi, hz0, hz1, hz2'⟩ := info_parts info_str
  go_enter Tryd.func29, Tryd.ntmps29
  go_wp2_with (go_at_call 30; refine Calls.mono (HT.out _) ?_; unfold tripV; rintro e w2 ⟨rfl, hb2⟩; have HN2 : Hid (MB w2 (w.heap.size + 1) #[.int .i64 2, .string ⟨#[]⟩, .string ⟨#[]⟩, .slice none 0 0, .slice none 0 0, .int .i64 0]) := Lib.hid (MB.on (by have h := heap_alloc_new (w.alloc (.cells #[.int .i64 0, .string ⟨#[]⟩, .string ⟨#[]⟩, .slice none 0 0, .slice none 0 0, .int .i64 0] 26)) (.cells #[.int .i64 2, .string ⟨#[]⟩, .string ⟨#[]⟩, .slice none 0 0, .slice none 0 0, .int .i64 0] 26); simpa [MB] using h) hb2); have HM2 : Hid (MB w2 w.heap.size #[.int .i64 0, .string ⟨#[]⟩, .string ⟨#[]⟩, .slice none 0 0, .slice none 0 0, .int .i64 0]) := Lib.hid ((hb2.block w.heap.size (by simp; omega)).trans ((Lib.alloc_old _ _ _ (by simp)).trans (heap_alloc_new w _))); have hz2 : w.heap.size < w2.heap.size := HM2.out.lt; have hy2 : w.heap.size + 1 < w2.heap.size := HN2.out.lt; have HB2 : Hid (Below w.heap.size w w2) := Lib.hid (bel (by go_grown) hb2); have pc0 : w2.cell? ⟨w.heap.size, 0, none⟩ = some (.int .i64 0) := HM2.out.cell 0; have pf0 := HM2.out.froz 0; have pc1 : w2.cell? ⟨w.heap.size, 1, none⟩ = some (.string ⟨#[]⟩) := HM2.out.cell 1; have pf1 := HM2.out.froz 1; have pc2 : w2.cell? ⟨w.heap.size, 2, none⟩ = some (.string ⟨#[]⟩) := HM2.out.cell 2; have pf2 := HM2.out.froz 2; have pc3 : w2.cell? ⟨w.heap.size, 3, none⟩ = some (.slice none 0 0) := HM2.out.cell 3; have pf3 := HM2.out.froz 3; have pc4 : w2.cell? ⟨w.heap.size, 4, none⟩ = some (.slice none 0 0) := HM2.out.cell 4; have pf4 := HM2.out.froz 4; have pc5 : w2.cell? ⟨w.heap.size, 5, none⟩ = some (.int .i64 0) := HM2.out.cell 5; have pf5 := HM2.out.froz 5; have qc0 : w2.cell? ⟨w.heap.size + 1, 0, none⟩ = some (.int .i64 2) := HN2.out.cell 0; have qf0 := HN2.out.froz 0; have qc1 : w2.cell? ⟨w.heap.size + 1, 1, none⟩ = some (.string ⟨#[]⟩) := HN2.out.cell 1; have qf1 := HN2.out.froz 1; have qc2 : w2.cell? ⟨w.heap.size + 1, 2, none⟩ = some (.string ⟨#[]⟩) := HN2.out.cell 2; have qf2 := HN2.out.froz 2; have qc3 : w2.cell? ⟨w.heap.size + 1, 3, none⟩ = some (.slice none 0 0) := HN2.out.cell 3; have qf3 := HN2.out.froz 3; have qc4 : w2.cell? ⟨w.heap.size + 1, 4, none⟩ = some (.slice none 0 0) := HN2.out.cell 4; have qf4 := HN2.out.froz 4; have qc5 : w2.cell? ⟨w.heap.size + 1, 5, none⟩ = some (.int .i64 0) := HN2.out.cell 5; have qf5 := HN2.out.froz 5; clear hb2)
  have HZ : Hid (MgP w2 (w.heap.size + 1) (w.heap.size + 1) 2 (.slice none 0 0) (.slice none 0 0) [] []) := Lib.hid ⟨Nat.le_refl _, HN2.out, World.ownsRow_nil _ _ _ _, World.ownsRow_nil _ _ _ _⟩
  clear pc0 pf0 qc0 qf0 pc1 pf1 qc1 qf1 pc2 pf2 qc2 qf2 pc3 pf3 qc3 qf3 pc4 pf4 qc4 qf4 pc5 pf5 qc5 qf5
  go_loopw [0, 10] (fun sv iv wr => ∃ (i : Nat) (W : World) (s' : ByteArray) (ks : List ByteArray) (os : List ObjL) (kv ov : Value), W = wr ∧ sv = .string s' ∧ iv = .int .u64 i ∧ i ≤ n ∧ Hid (MgP W (w.heap.size + 1) (w.heap.size + 1) 2 kv ov ks os) ∧ Hid (Below (w.heap.size + 1) w2 W) ∧
      Hid (∃ pre, ks = pre.map (·.1) ∧ os = [] ∧ Sofar 2 n i s0 pre s')) (fun _ iv _ => n + 1 - (intOf iv).toNat)
  case atStart => exact ⟨0, _, _, [], [], _, _, rfl, rfl, rfl, Nat.zero_le _, HZ, Lib.hid (Below.refl _ _), Lib.hid ⟨[], rfl, rfl, by have h := HS0.out; subst h; exact Sofar.zero _ _ _⟩⟩
  case round =>
    obtain ⟨i, W, s', ks, os, kv, ov, hW, rfl, rfl, hin, HMr, HBr, HP⟩ := hrel
    subst hW
    obtain ⟨A1, n1', d1, rfl⟩ := own_slice HMr.out.ko
    obtain ⟨A2, n2', d2, rfl⟩ := own_slice HMr.out.oo
    have HRB : Hid (MB W w.heap.size #[.int .i64 0, .string ⟨#[]⟩, .string ⟨#[]⟩, .slice none 0 0, .slice none 0 0, .int .i64 0]) := Lib.hid ((HBr.out.block w.heap.size (Nat.lt_succ_self _)).trans HM2.out)
    have HBW : Hid (Below w.heap.size w W) := Lib.hid (HB2.out.trans (HBr.out.mono (Nat.le_succ _)))
    have hzW : w.heap.size + 1 < W.heap.size := HMr.out.lt
    have hzR : w.heap.size < W.heap.size := HRB.out.lt
    have hBW1 : w.heap.size + 1 ≤ W.heap.size := by omega
    obtain ⟨c30, c31, c32, c33, c34, c35, cf⟩ := HMr.out.cell
    have f3 := cf 3
    clear cf
    have hs'z : s'.size ≤ 1000000 := by
      obtain ⟨pre, _, _, h⟩ := HP.out
      have := h.2.1
      omega
    by_cases hlt : i < n
    case pos =>
      have j1 : decide ((i : Int) < (n : Int)) = true := decide_eq_true (by omega)
      have j2 : decide (i < n) = true := decide_eq_true hlt
      by_cases h32 : s'.size < 32
      case pos =>
        have HFAIL : Hid (itemsL 2 n s0 = none) := Lib.hid (by
          obtain ⟨pre, _, _, h⟩ := HP.out
          exact h.fail (by unfold itemL; rw [if_pos h32]) hlt)
        have k1 : decide ((s'.size : Int) < 32) = true := decide_eq_true (by omega)
        have k2 : decide (s'.size < 32) = true := decide_eq_true h32
        have rc0 : W.cell? ⟨w.heap.size, 0, none⟩ = some (.int .i64 0) := HRB.out.cell 0
        have rf0 := HRB.out.froz 0
        have rc1 : W.cell? ⟨w.heap.size, 1, none⟩ = some (.string ⟨#[]⟩) := HRB.out.cell 1
        have rf1 := HRB.out.froz 1
        have rc2 : W.cell? ⟨w.heap.size, 2, none⟩ = some (.string ⟨#[]⟩) := HRB.out.cell 2
        have rf2 := HRB.out.froz 2
        have rc3 : W.cell? ⟨w.heap.size, 3, none⟩ = some (.slice none 0 0) := HRB.out.cell 3
        have rf3 := HRB.out.froz 3
        have rc4 : W.cell? ⟨w.heap.size, 4, none⟩ = some (.slice none 0 0) := HRB.out.cell 4
        have rf4 := HRB.out.froz 4
        have rc5 : W.cell? ⟨w.heap.size, 5, none⟩ = some (.int .i64 0) := HRB.out.cell 5
        have rf5 := HRB.out.froz 5
        go_wp2_with fail
        refine bodyPost_ret (res_list rfl rfl (mb6 HRB.out)) rfl ?_
        exact ⟨by rw [HLI.out, HFAIL.out]; exact ⟨_, ⟨2, ⟨#[]⟩, ⟨#[]⟩, ks, os, 0⟩, rfl, ⟨_, _, rfl, own6 HMr.out.ko (Nat.lt_succ_self _), own6 HMr.out.oo (Nat.lt_succ_self _)⟩⟩, bel6 HBW.out (Nat.le_refl _)⟩
      have k1 : decide ((s'.size : Int) < 32) = false := decide_eq_false (by omega)
      have k2 : decide (s'.size < 32) = false := decide_eq_false h32
      have k3 : (32 : Int) ≤ (s'.size : Int) := by omega
      have k4 : 32 ≤ s'.size := by omega
      have hl : ks.length ≤ 100 := by
        obtain ⟨pre, rfl, _, h⟩ := HP.out
        rw [List.length_map, h.1]; omega
      have HP2 : Hid (∃ pre, ks ++ [s'.extract 0 32] = pre.map (·.1) ∧ os = [] ∧ Sofar 2 n (i + 1) s0 pre (s'.extract 32 s'.size)) := Lib.hid (by
        obtain ⟨pre, rfl, rfl, h⟩ := HP.out
        exact ⟨pre ++ [(s'.extract 0 32, ⟨#[]⟩)], by rw [List.map_append]; rfl, rfl, h.succ (by unfold itemL; rw [if_neg h32, if_pos rfl]) hlt⟩)
      clear h32
      go_wp2_with (first
        | (at_builtin
           refine wpList_append_lies _ rfl _ _ _ rfl (w.heap.size + 1) 9 i0' _ 1 16 Tryd.underlying22 hi hz0 hz1 hz2' rfl (by omega) _ ks.length _ rfl (HMr.out.ko.alloc _) ⟨W.heap.size, 0, none⟩ 1 1 [.string (s'.extract 0 32)] rfl rfl (fun j u hj => news_cells W [.string (s'.extract 0 32)] 9 hj) (by simp [Value.oneCell']) (by omega) (by unfold maxLen; omega) (by omega) (by simp; omega) (W.heap.size + 1) (by simp) ?_
           intro g cap w4 hown2 hgrow hat hlt4
           have HX := Lib.hid (lk_key HMr.out hBW1 ((Below.refl _ _).alloc (Nat.le_refl _) _) hgrow hown2)
           have f4 : w4.frozen? ⟨w.heap.size + 1, 3, none⟩ = false := (hgrow.frozen_far ⟨w.heap.size + 1, 3, none⟩ ((HMr.out.on ((Below.refl _ _).alloc (Nat.le_refl _) _)).lt) (own_apart HMr.out.ko HMr.out.blk (by decide)).symm).trans ((HMr.out.on ((Below.refl _ _).alloc (Nat.le_refl _) _)).cell.2.2.2.2.2.2 3)
           have c4' : w4.cell? ⟨w.heap.size + 1, 3, none⟩ = some (.slice A1 n1' d1) := (hgrow.cell_far ⟨w.heap.size + 1, 3, none⟩ ((HMr.out.on ((Below.refl _ _).alloc (Nat.le_refl _) _)).lt) (own_apart HMr.out.ko HMr.out.blk (by decide)).symm).trans (HMr.out.on ((Below.refl _ _).alloc (Nat.le_refl _) _)).cell.2.2.2.1
           clear hown2 hgrow hat hlt4))
      go_roundw
      case rel => exact ⟨i + 1, _, _, _, _, _, _, rfl, rfl, by go_num, by omega, Lib.hid HX.out.1, Lib.hid (HBr.out.trans HX.out.2), HP2⟩
      case measure => simp [intOf]; omega
    obtain rfl : i = n := by omega
    have j1 : decide ((i : Int) < (i : Int)) = false := decide_eq_false (by omega)
    have rc0 : W.cell? ⟨w.heap.size, 0, none⟩ = some (.int .i64 0) := HRB.out.cell 0
    have rf0 := HRB.out.froz 0
    have rc1 : W.cell? ⟨w.heap.size, 1, none⟩ = some (.string ⟨#[]⟩) := HRB.out.cell 1
    have rf1 := HRB.out.froz 1
    have rc2 : W.cell? ⟨w.heap.size, 2, none⟩ = some (.string ⟨#[]⟩) := HRB.out.cell 2
    have rf2 := HRB.out.froz 2
    have rc3 : W.cell? ⟨w.heap.size, 3, none⟩ = some (.slice none 0 0) := HRB.out.cell 3
    have rf3 := HRB.out.froz 3
    have rc4 : W.cell? ⟨w.heap.size, 4, none⟩ = some (.slice none 0 0) := HRB.out.cell 4
    have rf4 := HRB.out.froz 4
    have rc5 : W.cell? ⟨w.heap.size, 5, none⟩ = some (.int .i64 0) := HRB.out.cell 5
    have rf5 := HRB.out.froz 5
    go_wp2_with fail
    refine bodyPost_ret (res_list rfl rfl (mb6 HRB.out)) rfl ?_
    obtain ⟨pre, hk1, hk2, hsf⟩ := HP.out
    subst hk1 hk2
    exact ⟨by rw [HLI.out, hsf.all]; exact ⟨_, rfl, ⟨_, _, rfl, own6 HMr.out.ko (Nat.lt_succ_self _), own6 HMr.out.oo (Nat.lt_succ_self _)⟩⟩, bel6 HBW.out (Nat.le_refl _)⟩

set_option maxRecDepth 100000 in
set_option maxHeartbeats 4000000 in
theorem list_3 (s : ByteArray) (w : World) (hz : s.size ≤ 1000000) :
    Calls Tryd.prog 29 #[.string s, .int .i64 3] w (LstP 3 (listL 3 s) w) := by
  have HT := Lib.hid (fun W => rtake_any s W hz)
  have hle := takeB_end s
  have HO : Hid (listL 3 s = if (takeB s).2.2 ≠ 0 ∨ 4 < (takeB s).1 then none else itemsL 3 (takeB s).1 (s.extract (takeB s).2.1 s.size)) := Lib.hid rfl
  obtain ⟨⟨n, k, c⟩, ht⟩ : ∃ t, t = takeB s := ⟨_, rfl⟩
  rw [← ht] at HT hle HO
  clear ht
  dsimp only at HT hle HO
  have i0 : (0 : Int) ≤ (k : Int) := by omega
  have i1 : (k : Int) ≤ (s.size : Int) := by omega
  by_cases hc : c = 0
  case neg =>
    have HLN : Hid (listL 3 s = none) := Lib.hid (by rw [HO.out, if_pos (.inl hc)])
    have c1 : ((c : Int) == 0) = false := by rw [beq_eq_false_iff_ne]; omega
    have c2 : ¬ (c : Int) = 0 := by omega
    clear hc HO
    go_enter Tryd.func29, Tryd.ntmps29
    go_wp2_with (go_at_call 30; refine Calls.mono (HT.out _) ?_; unfold tripV; rintro e w2 ⟨rfl, hb2⟩; have HN2 : Hid (MB w2 (w.heap.size + 1) #[.int .i64 3, .string ⟨#[]⟩, .string ⟨#[]⟩, .slice none 0 0, .slice none 0 0, .int .i64 0]) := Lib.hid (MB.on (by have h := heap_alloc_new (w.alloc (.cells #[.int .i64 0, .string ⟨#[]⟩, .string ⟨#[]⟩, .slice none 0 0, .slice none 0 0, .int .i64 0] 26)) (.cells #[.int .i64 3, .string ⟨#[]⟩, .string ⟨#[]⟩, .slice none 0 0, .slice none 0 0, .int .i64 0] 26); simpa [MB] using h) hb2); have HM2 : Hid (MB w2 w.heap.size #[.int .i64 0, .string ⟨#[]⟩, .string ⟨#[]⟩, .slice none 0 0, .slice none 0 0, .int .i64 0]) := Lib.hid ((hb2.block w.heap.size (by simp; omega)).trans ((Lib.alloc_old _ _ _ (by simp)).trans (heap_alloc_new w _))); have hz2 : w.heap.size < w2.heap.size := HM2.out.lt; have hy2 : w.heap.size + 1 < w2.heap.size := HN2.out.lt; have HB2 : Hid (Below w.heap.size w w2) := Lib.hid (bel (by go_grown) hb2); have pc0 : w2.cell? ⟨w.heap.size, 0, none⟩ = some (.int .i64 0) := HM2.out.cell 0; have pf0 := HM2.out.froz 0; have pc1 : w2.cell? ⟨w.heap.size, 1, none⟩ = some (.string ⟨#[]⟩) := HM2.out.cell 1; have pf1 := HM2.out.froz 1; have pc2 : w2.cell? ⟨w.heap.size, 2, none⟩ = some (.string ⟨#[]⟩) := HM2.out.cell 2; have pf2 := HM2.out.froz 2; have pc3 : w2.cell? ⟨w.heap.size, 3, none⟩ = some (.slice none 0 0) := HM2.out.cell 3; have pf3 := HM2.out.froz 3; have pc4 : w2.cell? ⟨w.heap.size, 4, none⟩ = some (.slice none 0 0) := HM2.out.cell 4; have pf4 := HM2.out.froz 4; have pc5 : w2.cell? ⟨w.heap.size, 5, none⟩ = some (.int .i64 0) := HM2.out.cell 5; have pf5 := HM2.out.froz 5; have qc0 : w2.cell? ⟨w.heap.size + 1, 0, none⟩ = some (.int .i64 3) := HN2.out.cell 0; have qf0 := HN2.out.froz 0; have qc1 : w2.cell? ⟨w.heap.size + 1, 1, none⟩ = some (.string ⟨#[]⟩) := HN2.out.cell 1; have qf1 := HN2.out.froz 1; have qc2 : w2.cell? ⟨w.heap.size + 1, 2, none⟩ = some (.string ⟨#[]⟩) := HN2.out.cell 2; have qf2 := HN2.out.froz 2; have qc3 : w2.cell? ⟨w.heap.size + 1, 3, none⟩ = some (.slice none 0 0) := HN2.out.cell 3; have qf3 := HN2.out.froz 3; have qc4 : w2.cell? ⟨w.heap.size + 1, 4, none⟩ = some (.slice none 0 0) := HN2.out.cell 4; have qf4 := HN2.out.froz 4; have qc5 : w2.cell? ⟨w.heap.size + 1, 5, none⟩ = some (.int .i64 0) := HN2.out.cell 5; have qf5 := HN2.out.froz 5; clear hb2)
    refine bodyPost_ret (res_list rfl rfl (mb6 HM2.out)) rfl ?_
    exact ⟨by rw [HLN.out]; exact ⟨_, ⟨3, ⟨#[]⟩, ⟨#[]⟩, [], [], 0⟩, rfl, MsgO.bare 3 0 _ _⟩, bel6 HB2.out (Nat.le_refl _)⟩
  subst hc
  by_cases hn : 4 < n
  case pos =>
    have HLN : Hid (listL 3 s = none) := Lib.hid (by rw [HO.out, if_pos (.inr hn)])
    have n1 : decide (4 < (n : Int)) = true := decide_eq_true (by omega)
    have n2 : decide (4 < n) = true := decide_eq_true hn
    clear hn HO
    go_enter Tryd.func29, Tryd.ntmps29
    go_wp2_with (go_at_call 30; refine Calls.mono (HT.out _) ?_; unfold tripV; rintro e w2 ⟨rfl, hb2⟩; have HN2 : Hid (MB w2 (w.heap.size + 1) #[.int .i64 3, .string ⟨#[]⟩, .string ⟨#[]⟩, .slice none 0 0, .slice none 0 0, .int .i64 0]) := Lib.hid (MB.on (by have h := heap_alloc_new (w.alloc (.cells #[.int .i64 0, .string ⟨#[]⟩, .string ⟨#[]⟩, .slice none 0 0, .slice none 0 0, .int .i64 0] 26)) (.cells #[.int .i64 3, .string ⟨#[]⟩, .string ⟨#[]⟩, .slice none 0 0, .slice none 0 0, .int .i64 0] 26); simpa [MB] using h) hb2); have HM2 : Hid (MB w2 w.heap.size #[.int .i64 0, .string ⟨#[]⟩, .string ⟨#[]⟩, .slice none 0 0, .slice none 0 0, .int .i64 0]) := Lib.hid ((hb2.block w.heap.size (by simp; omega)).trans ((Lib.alloc_old _ _ _ (by simp)).trans (heap_alloc_new w _))); have hz2 : w.heap.size < w2.heap.size := HM2.out.lt; have hy2 : w.heap.size + 1 < w2.heap.size := HN2.out.lt; have HB2 : Hid (Below w.heap.size w w2) := Lib.hid (bel (by go_grown) hb2); have pc0 : w2.cell? ⟨w.heap.size, 0, none⟩ = some (.int .i64 0) := HM2.out.cell 0; have pf0 := HM2.out.froz 0; have pc1 : w2.cell? ⟨w.heap.size, 1, none⟩ = some (.string ⟨#[]⟩) := HM2.out.cell 1; have pf1 := HM2.out.froz 1; have pc2 : w2.cell? ⟨w.heap.size, 2, none⟩ = some (.string ⟨#[]⟩) := HM2.out.cell 2; have pf2 := HM2.out.froz 2; have pc3 : w2.cell? ⟨w.heap.size, 3, none⟩ = some (.slice none 0 0) := HM2.out.cell 3; have pf3 := HM2.out.froz 3; have pc4 : w2.cell? ⟨w.heap.size, 4, none⟩ = some (.slice none 0 0) := HM2.out.cell 4; have pf4 := HM2.out.froz 4; have pc5 : w2.cell? ⟨w.heap.size, 5, none⟩ = some (.int .i64 0) := HM2.out.cell 5; have pf5 := HM2.out.froz 5; have qc0 : w2.cell? ⟨w.heap.size + 1, 0, none⟩ = some (.int .i64 3) := HN2.out.cell 0; have qf0 := HN2.out.froz 0; have qc1 : w2.cell? ⟨w.heap.size + 1, 1, none⟩ = some (.string ⟨#[]⟩) := HN2.out.cell 1; have qf1 := HN2.out.froz 1; have qc2 : w2.cell? ⟨w.heap.size + 1, 2, none⟩ = some (.string ⟨#[]⟩) := HN2.out.cell 2; have qf2 := HN2.out.froz 2; have qc3 : w2.cell? ⟨w.heap.size + 1, 3, none⟩ = some (.slice none 0 0) := HN2.out.cell 3; have qf3 := HN2.out.froz 3; have qc4 : w2.cell? ⟨w.heap.size + 1, 4, none⟩ = some (.slice none 0 0) := HN2.out.cell 4; have qf4 := HN2.out.froz 4; have qc5 : w2.cell? ⟨w.heap.size + 1, 5, none⟩ = some (.int .i64 0) := HN2.out.cell 5; have qf5 := HN2.out.froz 5; clear hb2)
    refine bodyPost_ret (res_list rfl rfl (mb6 HM2.out)) rfl ?_
    exact ⟨by rw [HLN.out]; exact ⟨_, ⟨3, ⟨#[]⟩, ⟨#[]⟩, [], [], 0⟩, rfl, MsgO.bare 3 0 _ _⟩, bel6 HB2.out (Nat.le_refl _)⟩
  have HLI : Hid (listL 3 s = itemsL 3 n (s.extract k s.size)) := Lib.hid (by rw [HO.out, if_neg (by omega)])
  have hn4 : n ≤ 4 := by omega
  have n1 : decide (4 < (n : Int)) = false := decide_eq_false (by omega)
  have n2 : decide (4 < n) = false := decide_eq_false hn
  obtain ⟨s0, hs0⟩ : ∃ s0, s0 = s.extract k s.size := ⟨_, rfl⟩
  have hs0z : s0.size ≤ 1000000 := by rw [hs0, ByteArray.size_extract]; omega
  rw [← hs0] at HLI
  have HS0 := Lib.hid hs0
  clear hn HO hs0
  obtain ⟨i0', hi, hz0, hz1, hz2'⟩ := info_parts info_obj
  go_enter Tryd.func29, Tryd.ntmps29
  go_wp2_with (go_at_call 30; refine Calls.mono (HT.out _) ?_; unfold tripV; rintro e w2 ⟨rfl, hb2⟩; have HN2 : Hid (MB w2 (w.heap.size + 1) #[.int .i64 3, .string ⟨#[]⟩, .string ⟨#[]⟩, .slice none 0 0, .slice none 0 0, .int .i64 0]) := Lib.hid (MB.on (by have h := heap_alloc_new (w.alloc (.cells #[.int .i64 0, .string ⟨#[]⟩, .string ⟨#[]⟩, .slice none 0 0, .slice none 0 0, .int .i64 0] 26)) (.cells #[.int .i64 3, .string ⟨#[]⟩, .string ⟨#[]⟩, .slice none 0 0, .slice none 0 0, .int .i64 0] 26); simpa [MB] using h) hb2); have HM2 : Hid (MB w2 w.heap.size #[.int .i64 0, .string ⟨#[]⟩, .string ⟨#[]⟩, .slice none 0 0, .slice none 0 0, .int .i64 0]) := Lib.hid ((hb2.block w.heap.size (by simp; omega)).trans ((Lib.alloc_old _ _ _ (by simp)).trans (heap_alloc_new w _))); have hz2 : w.heap.size < w2.heap.size := HM2.out.lt; have hy2 : w.heap.size + 1 < w2.heap.size := HN2.out.lt; have HB2 : Hid (Below w.heap.size w w2) := Lib.hid (bel (by go_grown) hb2); have pc0 : w2.cell? ⟨w.heap.size, 0, none⟩ = some (.int .i64 0) := HM2.out.cell 0; have pf0 := HM2.out.froz 0; have pc1 : w2.cell? ⟨w.heap.size, 1, none⟩ = some (.string ⟨#[]⟩) := HM2.out.cell 1; have pf1 := HM2.out.froz 1; have pc2 : w2.cell? ⟨w.heap.size, 2, none⟩ = some (.string ⟨#[]⟩) := HM2.out.cell 2; have pf2 := HM2.out.froz 2; have pc3 : w2.cell? ⟨w.heap.size, 3, none⟩ = some (.slice none 0 0) := HM2.out.cell 3; have pf3 := HM2.out.froz 3; have pc4 : w2.cell? ⟨w.heap.size, 4, none⟩ = some (.slice none 0 0) := HM2.out.cell 4; have pf4 := HM2.out.froz 4; have pc5 : w2.cell? ⟨w.heap.size, 5, none⟩ = some (.int .i64 0) := HM2.out.cell 5; have pf5 := HM2.out.froz 5; have qc0 : w2.cell? ⟨w.heap.size + 1, 0, none⟩ = some (.int .i64 3) := HN2.out.cell 0; have qf0 := HN2.out.froz 0; have qc1 : w2.cell? ⟨w.heap.size + 1, 1, none⟩ = some (.string ⟨#[]⟩) := HN2.out.cell 1; have qf1 := HN2.out.froz 1; have qc2 : w2.cell? ⟨w.heap.size + 1, 2, none⟩ = some (.string ⟨#[]⟩) := HN2.out.cell 2; have qf2 := HN2.out.froz 2; have qc3 : w2.cell? ⟨w.heap.size + 1, 3, none⟩ = some (.slice none 0 0) := HN2.out.cell 3; have qf3 := HN2.out.froz 3; have qc4 : w2.cell? ⟨w.heap.size + 1, 4, none⟩ = some (.slice none 0 0) := HN2.out.cell 4; have qf4 := HN2.out.froz 4; have qc5 : w2.cell? ⟨w.heap.size + 1, 5, none⟩ = some (.int .i64 0) := HN2.out.cell 5; have qf5 := HN2.out.froz 5; clear hb2)
  have HZ : Hid (MgP w2 (w.heap.size + 1) (w.heap.size + 1) 3 (.slice none 0 0) (.slice none 0 0) [] []) := Lib.hid ⟨Nat.le_refl _, HN2.out, World.ownsRow_nil _ _ _ _, World.ownsRow_nil _ _ _ _⟩
  clear pc0 pf0 qc0 qf0 pc1 pf1 qc1 qf1 pc2 pf2 qc2 qf2 pc3 pf3 qc3 qf3 pc4 pf4 qc4 qf4 pc5 pf5 qc5 qf5
  go_loopw [0, 10] (fun sv iv wr => ∃ (i : Nat) (W : World) (s' : ByteArray) (ks : List ByteArray) (os : List ObjL) (kv ov : Value), W = wr ∧ sv = .string s' ∧ iv = .int .u64 i ∧ i ≤ n ∧ Hid (MgP W (w.heap.size + 1) (w.heap.size + 1) 3 kv ov ks os) ∧ Hid (Below (w.heap.size + 1) w2 W) ∧
      Hid (∃ pre, ks = [] ∧ os = pre ∧ Sofar 3 n i s0 pre s')) (fun _ iv _ => n + 1 - (intOf iv).toNat)
  case atStart => exact ⟨0, _, _, [], [], _, _, rfl, rfl, rfl, Nat.zero_le _, HZ, Lib.hid (Below.refl _ _), Lib.hid ⟨[], rfl, rfl, by have h := HS0.out; subst h; exact Sofar.zero _ _ _⟩⟩
  case round =>
    obtain ⟨i, W, s', ks, os, kv, ov, hW, rfl, rfl, hin, HMr, HBr, HP⟩ := hrel
    subst hW
    obtain ⟨A1, n1', d1, rfl⟩ := own_slice HMr.out.ko
    obtain ⟨A2, n2', d2, rfl⟩ := own_slice HMr.out.oo
    have HRB : Hid (MB W w.heap.size #[.int .i64 0, .string ⟨#[]⟩, .string ⟨#[]⟩, .slice none 0 0, .slice none 0 0, .int .i64 0]) := Lib.hid ((HBr.out.block w.heap.size (Nat.lt_succ_self _)).trans HM2.out)
    have HBW : Hid (Below w.heap.size w W) := Lib.hid (HB2.out.trans (HBr.out.mono (Nat.le_succ _)))
    have hzW : w.heap.size + 1 < W.heap.size := HMr.out.lt
    have hzR : w.heap.size < W.heap.size := HRB.out.lt
    have hBW1 : w.heap.size + 1 ≤ W.heap.size := by omega
    obtain ⟨c30, c31, c32, c33, c34, c35, cf⟩ := HMr.out.cell
    have f3 := cf 4
    clear cf
    have hs'z : s'.size ≤ 1000000 := by
      obtain ⟨pre, _, _, h⟩ := HP.out
      have := h.2.1
      omega
    by_cases hlt : i < n
    case pos =>
      have j1 : decide ((i : Int) < (n : Int)) = true := decide_eq_true (by omega)
      have j2 : decide (i < n) = true := decide_eq_true hlt
      by_cases h32 : s'.size < 32
      case pos =>
        have HFAIL : Hid (itemsL 3 n s0 = none) := Lib.hid (by
          obtain ⟨pre, _, _, h⟩ := HP.out
          exact h.fail (by unfold itemL; rw [if_pos h32]) hlt)
        have k1 : decide ((s'.size : Int) < 32) = true := decide_eq_true (by omega)
        have k2 : decide (s'.size < 32) = true := decide_eq_true h32
        have rc0 : W.cell? ⟨w.heap.size, 0, none⟩ = some (.int .i64 0) := HRB.out.cell 0
        have rf0 := HRB.out.froz 0
        have rc1 : W.cell? ⟨w.heap.size, 1, none⟩ = some (.string ⟨#[]⟩) := HRB.out.cell 1
        have rf1 := HRB.out.froz 1
        have rc2 : W.cell? ⟨w.heap.size, 2, none⟩ = some (.string ⟨#[]⟩) := HRB.out.cell 2
        have rf2 := HRB.out.froz 2
        have rc3 : W.cell? ⟨w.heap.size, 3, none⟩ = some (.slice none 0 0) := HRB.out.cell 3
        have rf3 := HRB.out.froz 3
        have rc4 : W.cell? ⟨w.heap.size, 4, none⟩ = some (.slice none 0 0) := HRB.out.cell 4
        have rf4 := HRB.out.froz 4
        have rc5 : W.cell? ⟨w.heap.size, 5, none⟩ = some (.int .i64 0) := HRB.out.cell 5
        have rf5 := HRB.out.froz 5
        go_wp2_with fail
        refine bodyPost_ret (res_list rfl rfl (mb6 HRB.out)) rfl ?_
        exact ⟨by rw [HLI.out, HFAIL.out]; exact ⟨_, ⟨3, ⟨#[]⟩, ⟨#[]⟩, ks, os, 0⟩, rfl, ⟨_, _, rfl, own6 HMr.out.ko (Nat.lt_succ_self _), own6 HMr.out.oo (Nat.lt_succ_self _)⟩⟩, bel6 HBW.out (Nat.le_refl _)⟩
      have k1 : decide ((s'.size : Int) < 32) = false := decide_eq_false (by omega)
      have k2 : decide (s'.size < 32) = false := decide_eq_false h32
      have k3 : (32 : Int) ≤ (s'.size : Int) := by omega
      have k4 : 32 ≤ s'.size := by omega
      have hl : os.length ≤ 100 := by
        obtain ⟨pre, _, rfl, h⟩ := HP.out
        rw [h.1]; omega
      have HTX := Lib.hid (fun W => rtaket_any (s'.extract 32 s'.size) W (by rw [ByteArray.size_extract]; omega))
      have hlx := takeT_end (s'.extract 32 s'.size)
      obtain ⟨r, hr⟩ : ∃ r, r = s'.extract 32 s'.size := ⟨_, rfl⟩
      rw [← hr] at HTX hlx
      obtain ⟨⟨t, j, c⟩, hx⟩ : ∃ x, x = takeT r := ⟨_, rfl⟩
      rw [← hx] at HTX hlx
      dsimp only at HTX hlx
      have y0 : (0 : Int) ≤ (j : Int) := by omega
      have y1 : (j : Int) ≤ (r.size : Int) := by omega
      have HX0 := Lib.hid hx.symm
      by_cases hc : c = 0
      case neg =>
        have HFAIL : Hid (itemsL 3 n s0 = none) := Lib.hid (by
          obtain ⟨pre, _, _, h⟩ := HP.out
          exact h.fail (by unfold itemL; rw [if_neg h32, if_neg (by decide), ← hr, ← hx, if_pos hc]) hlt)
        have g1 : ((c : Int) == 0) = false := by rw [beq_eq_false_iff_ne]; omega
        have g2 : ¬ (c : Int) = 0 := by omega
        have hr' := hr.symm
        clear h32 hx hc hr
        go_wp2_with (go_at_call 51; (first | rw [hr'] | skip); refine Calls.mono (HTX.out _) ?_; unfold texV; rintro e w5 ⟨rfl, hb5⟩; have HM5 := Lib.hid (HMr.out.on hb5); have HR5 : Hid (MB w5 w.heap.size #[.int .i64 0, .string ⟨#[]⟩, .string ⟨#[]⟩, .slice none 0 0, .slice none 0 0, .int .i64 0]) := Lib.hid (HRB.out.on hb5); have HB5 : Hid (Below w.heap.size w w5) := Lib.hid (bel HBW.out hb5); have hz5 : w.heap.size < w5.heap.size := HR5.out.lt; have hy5 : w.heap.size + 1 < w5.heap.size := HM5.out.lt; obtain ⟨m0, m1, m2, m3, m4, m5, mf⟩ := HM5.out.cell; have rc0 : w5.cell? ⟨w.heap.size, 0, none⟩ = some (.int .i64 0) := HR5.out.cell 0; have rf0 := HR5.out.froz 0; have rc1 : w5.cell? ⟨w.heap.size, 1, none⟩ = some (.string ⟨#[]⟩) := HR5.out.cell 1; have rf1 := HR5.out.froz 1; have rc2 : w5.cell? ⟨w.heap.size, 2, none⟩ = some (.string ⟨#[]⟩) := HR5.out.cell 2; have rf2 := HR5.out.froz 2; have rc3 : w5.cell? ⟨w.heap.size, 3, none⟩ = some (.slice none 0 0) := HR5.out.cell 3; have rf3 := HR5.out.froz 3; have rc4 : w5.cell? ⟨w.heap.size, 4, none⟩ = some (.slice none 0 0) := HR5.out.cell 4; have rf4 := HR5.out.froz 4; have rc5 : w5.cell? ⟨w.heap.size, 5, none⟩ = some (.int .i64 0) := HR5.out.cell 5; have rf5 := HR5.out.froz 5; clear hb5 mf)
        refine bodyPost_ret (res_list rfl rfl (mb6 HR5.out)) rfl ?_
        exact ⟨by rw [HLI.out, HFAIL.out]; exact ⟨_, ⟨3, ⟨#[]⟩, ⟨#[]⟩, ks, os, 0⟩, rfl, ⟨_, _, rfl, own6 HM5.out.ko (Nat.lt_succ_self _), own6 HM5.out.oo (Nat.lt_succ_self _)⟩⟩, bel6 HB5.out (Nat.le_refl _)⟩
      subst hc
      have HP2 : Hid (∃ pre, ks = [] ∧ os ++ [(s'.extract 0 32, t)] = pre ∧ Sofar 3 n (i + 1) s0 pre (r.extract j r.size)) := Lib.hid (by
        obtain ⟨pre, rfl, rfl, h⟩ := HP.out
        exact ⟨os ++ [(s'.extract 0 32, t)], rfl, rfl, h.succ (by unfold itemL; rw [if_neg h32, if_neg (by decide), ← hr, ← hx, if_neg (by simp)]) hlt⟩)
      have hr' := hr.symm
      clear h32 hx hr
      go_wp2_with (first
        | (go_at_call 51; (first | rw [hr'] | skip); refine Calls.mono (HTX.out _) ?_; unfold texV; rintro e w5 ⟨rfl, hb5⟩; have HM5 := Lib.hid (HMr.out.on hb5); have HB5 : Hid (Below (w.heap.size + 1) w2 w5) := Lib.hid (HBr.out.trans (hb5.mono hBW1)); have hy5 : w.heap.size + 1 < w5.heap.size := HM5.out.lt; have hz5 : w.heap.size + 1 ≤ w5.heap.size := (by omega); obtain ⟨m0, m1, m2, m3, m4, m5, mf⟩ := HM5.out.cell; have f5 := mf 4; clear hb5 mf)
        | (at_builtin
           refine wpList_append_lies _ rfl _ _ _ rfl (w.heap.size + 1) 40 i0' _ 2 32 Tryd.underlying23 hi hz0 hz1 hz2' rfl (by omega) _ os.length _ rfl (HM5.out.oo.alloc _) ⟨w5.heap.size, 0, none⟩ 1 1 [.string (s'.extract 0 32), .string t] rfl rfl (fun j u hj => news_cells w5 [.string (s'.extract 0 32), .string t] 40 hj) (by simp [Value.oneCell']) (by omega) (by unfold maxLen; omega) (by omega) (by simp; omega) (w5.heap.size + 1) (by simp) ?_
           intro g cap w4 hown2 hgrow hat hlt4
           have HX := Lib.hid (lk_obj (x := (s'.extract 0 32, t)) HM5.out hz5 ((Below.refl _ _).alloc (Nat.le_refl _) _) hgrow hown2)
           have f4 : w4.frozen? ⟨w.heap.size + 1, 4, none⟩ = false := (hgrow.frozen_far ⟨w.heap.size + 1, 4, none⟩ ((HM5.out.on ((Below.refl _ _).alloc (Nat.le_refl _) _)).lt) (own_apart HM5.out.oo HM5.out.blk (by decide)).symm).trans ((HM5.out.on ((Below.refl _ _).alloc (Nat.le_refl _) _)).cell.2.2.2.2.2.2 4)
           have c4' : w4.cell? ⟨w.heap.size + 1, 4, none⟩ = some (.slice A2 n2' d2) := (hgrow.cell_far ⟨w.heap.size + 1, 4, none⟩ ((HM5.out.on ((Below.refl _ _).alloc (Nat.le_refl _) _)).lt) (own_apart HM5.out.oo HM5.out.blk (by decide)).symm).trans (HM5.out.on ((Below.refl _ _).alloc (Nat.le_refl _) _)).cell.2.2.2.2.1
           clear hown2 hgrow hat hlt4))
      go_roundw
      case rel => exact ⟨i + 1, _, _, _, _, _, _, rfl, rfl, by go_num, by omega, Lib.hid HX.out.1, Lib.hid (HB5.out.trans HX.out.2), HP2⟩
      case measure => simp [intOf]; omega
    obtain rfl : i = n := by omega
    have j1 : decide ((i : Int) < (i : Int)) = false := decide_eq_false (by omega)
    have rc0 : W.cell? ⟨w.heap.size, 0, none⟩ = some (.int .i64 0) := HRB.out.cell 0
    have rf0 := HRB.out.froz 0
    have rc1 : W.cell? ⟨w.heap.size, 1, none⟩ = some (.string ⟨#[]⟩) := HRB.out.cell 1
    have rf1 := HRB.out.froz 1
    have rc2 : W.cell? ⟨w.heap.size, 2, none⟩ = some (.string ⟨#[]⟩) := HRB.out.cell 2
    have rf2 := HRB.out.froz 2
    have rc3 : W.cell? ⟨w.heap.size, 3, none⟩ = some (.slice none 0 0) := HRB.out.cell 3
    have rf3 := HRB.out.froz 3
    have rc4 : W.cell? ⟨w.heap.size, 4, none⟩ = some (.slice none 0 0) := HRB.out.cell 4
    have rf4 := HRB.out.froz 4
    have rc5 : W.cell? ⟨w.heap.size, 5, none⟩ = some (.int .i64 0) := HRB.out.cell 5
    have rf5 := HRB.out.froz 5
    go_wp2_with fail
    refine bodyPost_ret (res_list rfl rfl (mb6 HRB.out)) rfl ?_
    obtain ⟨pre, hk1, hk2, hsf⟩ := HP.out
    subst hk1
    have hk3 := hk2.symm
    subst hk3
    exact ⟨by rw [HLI.out, hsf.all]; exact ⟨_, rfl, ⟨_, _, rfl, own6 HMr.out.ko (Nat.lt_succ_self _), own6 HMr.out.oo (Nat.lt_succ_self _)⟩⟩, bel6 HBW.out (Nat.le_refl _)⟩

end Go.Proofs.YthlajcohbpjgkaaDoor
