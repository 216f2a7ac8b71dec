/-
  The reader's message: an end; of another kind. (Printed by genms4.py.)
-/
import Derived.Test.YthlajcohbpjgkaaDoorMMs1
namespace Go.Proofs.YthlajcohbpjgkaaDoor
open Go.RowKit Go.Shelf Go.Proofs.Mem
set_option linter.unusedVariables false

theorem read_4n (s : ByteArray) (h : 0 < s.size) (h1 : byteAt s 0 = 4) (ht : (takeB (s.extract 1 s.size)).2.2 ≠ 0 ∨ 19 < (takeB (s.extract 1 s.size)).1) : readM s = none := by
  unfold readM; rw [if_neg (by omega), if_neg (by omega), if_pos h1, if_pos ht]
theorem read_4y (s : ByteArray) (n k : Nat) (h : 0 < s.size) (h1 : byteAt s 0 = 4) (ht : takeB (s.extract 1 s.size) = (n, k, 0)) (hn : n ≤ 19) :
    readM s = if k < (s.extract 1 s.size).size then none else some ⟨4, ⟨#[]⟩, ⟨#[]⟩, [], [], (n : Nat)⟩ := by
  unfold readM; rw [if_neg (by omega), if_neg (by omega), if_pos h1, ht, if_neg (by rintro (h | h); exact h rfl; dsimp only at h; omega)]
theorem read_other (s : ByteArray) (h : 0 < s.size) (h1 : byteAt s 0 ≠ 1) (h2 : byteAt s 0 ≠ 2) (h3 : byteAt s 0 ≠ 3) (h4 : byteAt s 0 ≠ 4) : readM s = none := by
  unfold readM; rw [if_neg (by omega), if_neg h1, if_neg h4, if_neg (by rintro (h | h); exact h2 h; exact h3 h)]
theorem fit_4 (n : Nat) (h : n ≤ 19) : fitL ⟨4, ⟨#[]⟩, ⟨#[]⟩, [], [], (n : Nat)⟩ = true := by
  unfold fitL bareL
  have e1 : ¬ (4 : Int) = 1 := by decide
  have e2 : ¬ (4 : Int) = 2 := by decide
  have e3 : ¬ (4 : Int) = 3 := by decide
  dsimp only
  rw [if_neg e1, if_neg e2, if_neg e3, if_neg e1, if_neg e2, if_neg e3, Bool.and_eq_true, decide_eq_true_iff, decide_eq_true_iff]
  exact ⟨rfl, rfl, by omega, by omega⟩
theorem fit_other (c : Nat) (m : MsgL) (hk : m.kind = c) (h1 : c ≠ 1) (h2 : c ≠ 2) (h3 : c ≠ 3) (h4 : c ≠ 4) : fitL m = false := by
  unfold fitL
  have e : decide (m.kind = 4 ∧ 0 ≤ m.err ∧ m.err ≤ 19) = false := decide_eq_false (fun h => by have := h.1; omega)
  rw [if_neg (by omega), if_neg (by omega), if_neg (by omega), e, Bool.and_false]


set_option maxRecDepth 100000 in
set_option maxHeartbeats 2000000 in
theorem mes_4 (B rb : Nat) (s : ByteArray) (w : World) (hr : RdAt w rb s) (hB : B ≤ rb) (hBw : B ≤ w.heap.size) (hs : 0 < s.size) (hz : s.size ≤ 1000000) (h1 : byteAt s 0 = 4) :
    Calls Tryd.prog 25 #[.pointer (some ⟨rb, 0, none⟩)] w (MesP B (readM s) w) := by
  have e0 : s.toList.isEmpty = false := by rw [Bool.eq_false_iff, ne_eq, List.isEmpty_iff, str_nil]; omega
  obtain ⟨x1, hx1, hxs, hxb⟩ := first_byte s hs
  have hx0 : (x1[0].toNat : Int) = 4 := by rw [hxb hxs, h1]; rfl
  have HCU := Lib.hid (fun W (hW : RdAt W rb s) => cut_any rb 1 s W hW (by omega) hz)
  rw [← hx1] at HCU
  obtain ⟨r, hrr⟩ : ∃ r, r = s.extract 1 s.size := ⟨_, rfl⟩
  have hrz : r.size ≤ 1000000 := by rw [hrr, ByteArray.size_extract]; omega
  rw [← hrr] at HCU
  have HR0 := Lib.hid hr
  have hl := hr.lt
  have c0 := hr.cell
  by_cases ht : (takeB r).2.2 ≠ 0 ∨ 19 < (takeB r).1
  case pos =>
    have HM : Hid (readM s = none) := Lib.hid (read_4n s hs h1 (by rw [← hrr]; exact ht))
    have HTX := Lib.hid (fun W (hW : RdAt W rb r) => number_no rb 19 r W hW ht hrz)
    clear hr hx1 hxb hrr ht h1
    go_enter Tryd.func25, Tryd.ntmps25
    go_wp2_with (first
      | (go_at_call 43; refine Calls.mono (HCU.out _ (HR0.out.on ((Below.refl _ _).alloc (Nat.le_refl _) _))) ?_; rintro e w1 ⟨rfl, h1⟩; have HR1 := Lib.hid h1.1; have HM1 : Hid (MB w1 w.heap.size #[.int .i64 0, .string ⟨#[]⟩, .string ⟨#[]⟩, .slice none 0 0, .slice none 0 0, .int .i64 0]) := Lib.hid (MB.read (heap_alloc_new w _) (HR0.out.on ((Below.refl _ _).alloc (Nat.le_refl _) _)) h1); have HB1 : Hid (Below B w w1) := Lib.hid (((Below.refl _ _).alloc hBw _).trans (rd_below hB (by simp; omega) h1)); have c10 : w1.cell? ⟨w.heap.size, 0, none⟩ = some (.int .i64 0) := HM1.out.cell 0; have f1 := HM1.out.froz 0; have hz1 : B ≤ w1.heap.size := Nat.le_trans hBw HB1.out.size; clear h1)
      | (go_at_call 45; refine Calls.mono (HTX.out _ (HR1.out.msg HM1.out 0 _)) ?_; unfold errV; rintro e w3 ⟨⟨c', rfl⟩, h3⟩; have HM3 := Lib.hid (MB.read (heap_setCell_same w1 w.heap.size 0 _ _ _ HM1.out) (HR1.out.msg HM1.out 0 _) h3); have HR3 := Lib.hid h3.1; have HB3 : Hid (Below B w w3) := Lib.hid ((Below.setCell (p := ⟨w.heap.size, 0, none⟩) HB1.out hBw _).trans (rd_below hB (by simp; omega) h3)); have hz3 : w.heap.size < w3.heap.size := HM3.out.lt; have hr3 : rb < w3.heap.size := HR3.out.lt; have c30 : w3.cell? ⟨w.heap.size, 0, none⟩ = some (.int .i64 4) := HM3.out.cell 0; have f30 := HM3.out.froz 0; have c31 : w3.cell? ⟨w.heap.size, 1, none⟩ = some (.string ⟨#[]⟩) := HM3.out.cell 1; have f31 := HM3.out.froz 1; have c32 : w3.cell? ⟨w.heap.size, 2, none⟩ = some (.string ⟨#[]⟩) := HM3.out.cell 2; have f32 := HM3.out.froz 2; have c33 : w3.cell? ⟨w.heap.size, 3, none⟩ = some (.slice none 0 0) := HM3.out.cell 3; have f33 := HM3.out.froz 3; have c34 : w3.cell? ⟨w.heap.size, 4, none⟩ = some (.slice none 0 0) := HM3.out.cell 4; have f34 := HM3.out.froz 4; have c35 : w3.cell? ⟨w.heap.size, 5, none⟩ = some (.int .i64 0) := HM3.out.cell 5; have f35 := HM3.out.froz 5; have r0 := HR3.out.cell; have rf := HR3.out.froz 0; have hne := HM3.out.ne HR3.out; clear h3; have HM5 : Hid (MB (w3.setCell ⟨w.heap.size, 5, none⟩ (.int .i64 0)) w.heap.size #[.int .i64 4, .string ⟨#[]⟩, .string ⟨#[]⟩, .slice none 0 0, .slice none 0 0, .int .i64 0]) := Lib.hid (ms5 HM3.out); have HB5 : Hid (Below B w (w3.setCell ⟨w.heap.size, 5, none⟩ (.int .i64 0))) := Lib.hid (HB3.out.setCell (p := ⟨w.heap.size, 5, none⟩) hBw _)))
    refine bodyPost_ret (res_mes rfl rfl (mb6 HM5.out)) rfl ?_
    rw [HM.out]
    exact ⟨⟨_, _, _, rfl, MsgO.bare 4 0 _ _⟩, bel6 HB5.out hBw⟩
  obtain ⟨⟨n, k, c⟩, hq⟩ : ∃ y, y = takeB r := ⟨_, rfl⟩
  rw [← hq] at ht
  dsimp only at ht
  have hc : c = 0 := by
    rcases Nat.eq_zero_or_pos c with h | h
    · exact h
    · exact absurd (.inl (by omega)) ht
  subst hc
  have hn : n ≤ 19 := by
    rcases Nat.lt_or_ge 19 n with h | h
    · exact absurd (.inr h) ht
    · exact h
  have hk : k ≤ r.size := by have := takeB_end r; rw [← hq] at this; exact this
  have HRM := Lib.hid (read_4y s n k hs h1 (by rw [← hrr, ← hq]) hn)
  rw [← hrr] at HRM
  have HTX := Lib.hid (fun W (hW : RdAt W rb r) => number_yes rb 19 r n k W hW hq.symm hn (by decide) hrz)
  obtain ⟨z, hz'⟩ : ∃ z, z = r.extract k r.size := ⟨_, rfl⟩
  have hzz : z.size = r.size - k := by rw [hz', ByteArray.size_extract]; omega
  rw [← hz'] at HTX
  have HFI := Lib.hid (fun W => mfit_any _ ⟨4, ⟨#[]⟩, ⟨#[]⟩, [], [], (n : Nat)⟩ W true (fit_4 n hn) (MsgV.bare 4 n _ _) (by show 0 ≤ _; omega))
  by_cases hl : k < r.size
  case pos =>
    have HM : Hid (readM s = none) := Lib.hid (by rw [HRM.out, if_pos hl])
    have z1 : z.toList.isEmpty = false := by rw [Bool.eq_false_iff, ne_eq, List.isEmpty_iff, str_nil]; omega
    clear hr hx1 hxb hrr ht h1 hq hz' hzz hl
    go_enter Tryd.func25, Tryd.ntmps25
    go_wp2_with (first
      | (go_at_call 43; refine Calls.mono (HCU.out _ (HR0.out.on ((Below.refl _ _).alloc (Nat.le_refl _) _))) ?_; rintro e w1 ⟨rfl, h1⟩; have HR1 := Lib.hid h1.1; have HM1 : Hid (MB w1 w.heap.size #[.int .i64 0, .string ⟨#[]⟩, .string ⟨#[]⟩, .slice none 0 0, .slice none 0 0, .int .i64 0]) := Lib.hid (MB.read (heap_alloc_new w _) (HR0.out.on ((Below.refl _ _).alloc (Nat.le_refl _) _)) h1); have HB1 : Hid (Below B w w1) := Lib.hid (((Below.refl _ _).alloc hBw _).trans (rd_below hB (by simp; omega) h1)); have c10 : w1.cell? ⟨w.heap.size, 0, none⟩ = some (.int .i64 0) := HM1.out.cell 0; have f1 := HM1.out.froz 0; have hz1 : B ≤ w1.heap.size := Nat.le_trans hBw HB1.out.size; clear h1)
      | (go_at_call 45; refine Calls.mono (HTX.out _ (HR1.out.msg HM1.out 0 _)) ?_; rintro e w3 ⟨rfl, h3⟩; have HM3 := Lib.hid (MB.read (heap_setCell_same w1 w.heap.size 0 _ _ _ HM1.out) (HR1.out.msg HM1.out 0 _) h3); have HR3 := Lib.hid h3.1; have HB3 : Hid (Below B w w3) := Lib.hid ((Below.setCell (p := ⟨w.heap.size, 0, none⟩) HB1.out hBw _).trans (rd_below hB (by simp; omega) h3)); have hz3 : w.heap.size < w3.heap.size := HM3.out.lt; have hr3 : rb < w3.heap.size := HR3.out.lt; have c30 : w3.cell? ⟨w.heap.size, 0, none⟩ = some (.int .i64 4) := HM3.out.cell 0; have f30 := HM3.out.froz 0; have c31 : w3.cell? ⟨w.heap.size, 1, none⟩ = some (.string ⟨#[]⟩) := HM3.out.cell 1; have f31 := HM3.out.froz 1; have c32 : w3.cell? ⟨w.heap.size, 2, none⟩ = some (.string ⟨#[]⟩) := HM3.out.cell 2; have f32 := HM3.out.froz 2; have c33 : w3.cell? ⟨w.heap.size, 3, none⟩ = some (.slice none 0 0) := HM3.out.cell 3; have f33 := HM3.out.froz 3; have c34 : w3.cell? ⟨w.heap.size, 4, none⟩ = some (.slice none 0 0) := HM3.out.cell 4; have f34 := HM3.out.froz 4; have c35 : w3.cell? ⟨w.heap.size, 5, none⟩ = some (.int .i64 0) := HM3.out.cell 5; have f35 := HM3.out.froz 5; have r0 := HR3.out.cell; have rf := HR3.out.froz 0; have hne := HM3.out.ne HR3.out; clear h3; have HM5 : Hid (MB (w3.setCell ⟨w.heap.size, 5, none⟩ (.int .i64 (n : Nat))) w.heap.size #[.int .i64 4, .string ⟨#[]⟩, .string ⟨#[]⟩, .slice none 0 0, .slice none 0 0, .int .i64 (n : Nat)]) := Lib.hid (ms5 HM3.out); have HB5 : Hid (Below B w (w3.setCell ⟨w.heap.size, 5, none⟩ (.int .i64 (n : Nat)))) := Lib.hid (HB3.out.setCell (p := ⟨w.heap.size, 5, none⟩) hBw _)))
    refine bodyPost_ret (res_mes rfl rfl (mb6 HM5.out)) rfl ?_
    rw [HM.out]
    exact ⟨⟨_, _, _, rfl, MsgO.bare 4 n _ _⟩, bel6 HB5.out hBw⟩
  have HM : Hid (readM s = some ⟨4, ⟨#[]⟩, ⟨#[]⟩, [], [], (n : Nat)⟩) := Lib.hid (by rw [HRM.out, if_neg hl])
  have z1 : z.toList.isEmpty = true := by rw [List.isEmpty_iff, str_nil]; omega
  clear hr hx1 hxb hrr ht h1 hq hz' hzz hl
  go_enter Tryd.func25, Tryd.ntmps25
  go_wp2_with (first
    | (go_at_call 43; refine Calls.mono (HCU.out _ (HR0.out.on ((Below.refl _ _).alloc (Nat.le_refl _) _))) ?_; rintro e w1 ⟨rfl, h1⟩; have HR1 := Lib.hid h1.1; have HM1 : Hid (MB w1 w.heap.size #[.int .i64 0, .string ⟨#[]⟩, .string ⟨#[]⟩, .slice none 0 0, .slice none 0 0, .int .i64 0]) := Lib.hid (MB.read (heap_alloc_new w _) (HR0.out.on ((Below.refl _ _).alloc (Nat.le_refl _) _)) h1); have HB1 : Hid (Below B w w1) := Lib.hid (((Below.refl _ _).alloc hBw _).trans (rd_below hB (by simp; omega) h1)); have c10 : w1.cell? ⟨w.heap.size, 0, none⟩ = some (.int .i64 0) := HM1.out.cell 0; have f1 := HM1.out.froz 0; have hz1 : B ≤ w1.heap.size := Nat.le_trans hBw HB1.out.size; clear h1)
    | (go_at_call 45; refine Calls.mono (HTX.out _ (HR1.out.msg HM1.out 0 _)) ?_; rintro e w3 ⟨rfl, h3⟩; have HM3 := Lib.hid (MB.read (heap_setCell_same w1 w.heap.size 0 _ _ _ HM1.out) (HR1.out.msg HM1.out 0 _) h3); have HR3 := Lib.hid h3.1; have HB3 : Hid (Below B w w3) := Lib.hid ((Below.setCell (p := ⟨w.heap.size, 0, none⟩) HB1.out hBw _).trans (rd_below hB (by simp; omega) h3)); have hz3 : w.heap.size < w3.heap.size := HM3.out.lt; have hr3 : rb < w3.heap.size := HR3.out.lt; have c30 : w3.cell? ⟨w.heap.size, 0, none⟩ = some (.int .i64 4) := HM3.out.cell 0; have f30 := HM3.out.froz 0; have c31 : w3.cell? ⟨w.heap.size, 1, none⟩ = some (.string ⟨#[]⟩) := HM3.out.cell 1; have f31 := HM3.out.froz 1; have c32 : w3.cell? ⟨w.heap.size, 2, none⟩ = some (.string ⟨#[]⟩) := HM3.out.cell 2; have f32 := HM3.out.froz 2; have c33 : w3.cell? ⟨w.heap.size, 3, none⟩ = some (.slice none 0 0) := HM3.out.cell 3; have f33 := HM3.out.froz 3; have c34 : w3.cell? ⟨w.heap.size, 4, none⟩ = some (.slice none 0 0) := HM3.out.cell 4; have f34 := HM3.out.froz 4; have c35 : w3.cell? ⟨w.heap.size, 5, none⟩ = some (.int .i64 0) := HM3.out.cell 5; have f35 := HM3.out.froz 5; have r0 := HR3.out.cell; have rf := HR3.out.froz 0; have hne := HM3.out.ne HR3.out; clear h3; have HM5 : Hid (MB (w3.setCell ⟨w.heap.size, 5, none⟩ (.int .i64 (n : Nat))) w.heap.size #[.int .i64 4, .string ⟨#[]⟩, .string ⟨#[]⟩, .slice none 0 0, .slice none 0 0, .int .i64 (n : Nat)]) := Lib.hid (ms5 HM3.out); have HB5 : Hid (Below B w (w3.setCell ⟨w.heap.size, 5, none⟩ (.int .i64 (n : Nat)))) := Lib.hid (HB3.out.setCell (p := ⟨w.heap.size, 5, none⟩) hBw _))
    | (go_at_call 14; refine Calls.mono (HFI.out _) ?_; rintro e w4 ⟨rfl, hb4⟩; have HB4 : Hid (Below B w w4) := Lib.hid (HB5.out.trans (hb4.mono (Nat.le_trans hBw HB5.out.size))); have HM4 := Lib.hid (HM5.out.on hb4); obtain ⟨hc4, hf4⟩ := bcell hb4; have hz4 : w.heap.size < w4.heap.size := HM4.out.lt; clear hb4))
  refine bodyPost_ret (res_mes rfl rfl (mb6 HM4.out)) rfl ?_
  rw [HM.out]
  exact ⟨⟨_, rfl, MsgO.bare 4 n _ _⟩, bel6 HB4.out hBw⟩


set_option maxRecDepth 100000 in
set_option maxHeartbeats 2000000 in
theorem mes_o (B rb : Nat) (s : ByteArray) (w : World) (hr : RdAt w rb s) (hB : B ≤ rb) (hBw : B ≤ w.heap.size) (hs : 0 < s.size) (hz : s.size ≤ 1000000) (b1 : byteAt s 0 ≠ 1) (b2 : byteAt s 0 ≠ 2) (b3 : byteAt s 0 ≠ 3) (b4 : byteAt s 0 ≠ 4) :
    Calls Tryd.prog 25 #[.pointer (some ⟨rb, 0, none⟩)] w (MesP B (readM s) w) := by
  have e0 : s.toList.isEmpty = false := by rw [Bool.eq_false_iff, ne_eq, List.isEmpty_iff, str_nil]; omega
  obtain ⟨x1, hx1, hxs, hxb⟩ := first_byte s hs
  obtain ⟨c, hc⟩ : ∃ c, c = byteAt s 0 := ⟨_, rfl⟩
  have hx0 : (x1[0].toNat : Int) = (c : Int) := by rw [hxb hxs, hc]
  have HCU := Lib.hid (fun W (hW : RdAt W rb s) => cut_any rb 1 s W hW (by omega) hz)
  rw [← hx1] at HCU
  obtain ⟨r, hrr⟩ : ∃ r, r = s.extract 1 s.size := ⟨_, rfl⟩
  have hrz : r.size ≤ 1000000 := by rw [hrr, ByteArray.size_extract]; omega
  rw [← hrr] at HCU
  have HR0 := Lib.hid hr
  have hl := hr.lt
  have c0 := hr.cell
  have HM : Hid (readM s = none) := Lib.hid (read_other s hs b1 b2 b3 b4)
  rw [← hc] at b1 b2 b3 b4
  have hwc : wrap64 (c : Int) = (c : Int) := by
    have := byteAt_lt s 0
    rw [← hc] at this
    unfold wrap64
    omega
  have HFI := Lib.hid (fun W => mfit_any _ ⟨(c : Int), ⟨#[]⟩, ⟨#[]⟩, [], [], 0⟩ W false (fit_other c _ rfl b1 b2 b3 b4) (MsgV.bare c 0 _ _) (by show 0 ≤ _; omega))
  have k1 : ((c : Int) == 1) = false := beq_eq_false_iff_ne.2 (by omega)
  have k2 : ((c : Int) == 2) = false := beq_eq_false_iff_ne.2 (by omega)
  have k3 : ((c : Int) == 3) = false := beq_eq_false_iff_ne.2 (by omega)
  have k4 : ((c : Int) == 4) = false := beq_eq_false_iff_ne.2 (by omega)
  by_cases hl : r.size = 0
  case neg =>
    have z1 : r.toList.isEmpty = false := by rw [Bool.eq_false_iff, ne_eq, List.isEmpty_iff, str_nil]; omega
    clear hr hx1 hxb hrr hc b1 b2 b3 b4 hl
    go_enter Tryd.func25, Tryd.ntmps25
    go_wp2_with (go_at_call 43; refine Calls.mono (HCU.out _ (HR0.out.on ((Below.refl _ _).alloc (Nat.le_refl _) _))) ?_; rintro e w1 ⟨rfl, h1⟩; have HR1 := Lib.hid h1.1; have HM1 : Hid (MB w1 w.heap.size #[.int .i64 0, .string ⟨#[]⟩, .string ⟨#[]⟩, .slice none 0 0, .slice none 0 0, .int .i64 0]) := Lib.hid (MB.read (heap_alloc_new w _) (HR0.out.on ((Below.refl _ _).alloc (Nat.le_refl _) _)) h1); have HB1 : Hid (Below B w w1) := Lib.hid (((Below.refl _ _).alloc hBw _).trans (rd_below hB (by simp; omega) h1)); have c10 : w1.cell? ⟨w.heap.size, 0, none⟩ = some (.int .i64 0) := HM1.out.cell 0; have f1 := HM1.out.froz 0; have hz1 : B ≤ w1.heap.size := Nat.le_trans hBw HB1.out.size; have HM5 : Hid (MB (w1.setCell ⟨w.heap.size, 0, none⟩ (.int .i64 c)) w.heap.size #[.int .i64 c, .string ⟨#[]⟩, .string ⟨#[]⟩, .slice none 0 0, .slice none 0 0, .int .i64 0]) := Lib.hid (ms0 HM1.out); have HB5 : Hid (Below B w (w1.setCell ⟨w.heap.size, 0, none⟩ (.int .i64 c))) := Lib.hid (HB1.out.setCell (p := ⟨w.heap.size, 0, none⟩) hBw _); have c11 : w1.cell? ⟨w.heap.size, 1, none⟩ = some (.string ⟨#[]⟩) := HM1.out.cell 1; have f11 := HM1.out.froz 1; have c12 : w1.cell? ⟨w.heap.size, 2, none⟩ = some (.string ⟨#[]⟩) := HM1.out.cell 2; have f12 := HM1.out.froz 2; have c13 : w1.cell? ⟨w.heap.size, 3, none⟩ = some (.slice none 0 0) := HM1.out.cell 3; have f13 := HM1.out.froz 3; have c14 : w1.cell? ⟨w.heap.size, 4, none⟩ = some (.slice none 0 0) := HM1.out.cell 4; have f14 := HM1.out.froz 4; have c15 : w1.cell? ⟨w.heap.size, 5, none⟩ = some (.int .i64 0) := HM1.out.cell 5; have f15 := HM1.out.froz 5; have r0 := HR1.out.cell; have hne := HM1.out.ne HR1.out; have hz3 : w.heap.size < w1.heap.size := HM1.out.lt; clear h1)
    refine bodyPost_ret (res_mes rfl rfl (mb6 HM5.out)) rfl ?_
    rw [HM.out]
    exact ⟨⟨_, _, _, rfl, MsgO.bare c 0 _ _⟩, bel6 HB5.out hBw⟩
  have z1 : r.toList.isEmpty = true := by rw [List.isEmpty_iff, str_nil]; omega
  clear hr hx1 hxb hrr hc b1 b2 b3 b4 hl
  go_enter Tryd.func25, Tryd.ntmps25
  go_wp2_with (first
    | (go_at_call 43; refine Calls.mono (HCU.out _ (HR0.out.on ((Below.refl _ _).alloc (Nat.le_refl _) _))) ?_; rintro e w1 ⟨rfl, h1⟩; have HR1 := Lib.hid h1.1; have HM1 : Hid (MB w1 w.heap.size #[.int .i64 0, .string ⟨#[]⟩, .string ⟨#[]⟩, .slice none 0 0, .slice none 0 0, .int .i64 0]) := Lib.hid (MB.read (heap_alloc_new w _) (HR0.out.on ((Below.refl _ _).alloc (Nat.le_refl _) _)) h1); have HB1 : Hid (Below B w w1) := Lib.hid (((Below.refl _ _).alloc hBw _).trans (rd_below hB (by simp; omega) h1)); have c10 : w1.cell? ⟨w.heap.size, 0, none⟩ = some (.int .i64 0) := HM1.out.cell 0; have f1 := HM1.out.froz 0; have hz1 : B ≤ w1.heap.size := Nat.le_trans hBw HB1.out.size; have HM5 : Hid (MB (w1.setCell ⟨w.heap.size, 0, none⟩ (.int .i64 c)) w.heap.size #[.int .i64 c, .string ⟨#[]⟩, .string ⟨#[]⟩, .slice none 0 0, .slice none 0 0, .int .i64 0]) := Lib.hid (ms0 HM1.out); have HB5 : Hid (Below B w (w1.setCell ⟨w.heap.size, 0, none⟩ (.int .i64 c))) := Lib.hid (HB1.out.setCell (p := ⟨w.heap.size, 0, none⟩) hBw _); have c11 : w1.cell? ⟨w.heap.size, 1, none⟩ = some (.string ⟨#[]⟩) := HM1.out.cell 1; have f11 := HM1.out.froz 1; have c12 : w1.cell? ⟨w.heap.size, 2, none⟩ = some (.string ⟨#[]⟩) := HM1.out.cell 2; have f12 := HM1.out.froz 2; have c13 : w1.cell? ⟨w.heap.size, 3, none⟩ = some (.slice none 0 0) := HM1.out.cell 3; have f13 := HM1.out.froz 3; have c14 : w1.cell? ⟨w.heap.size, 4, none⟩ = some (.slice none 0 0) := HM1.out.cell 4; have f14 := HM1.out.froz 4; have c15 : w1.cell? ⟨w.heap.size, 5, none⟩ = some (.int .i64 0) := HM1.out.cell 5; have f15 := HM1.out.froz 5; have r0 := HR1.out.cell; have hne := HM1.out.ne HR1.out; have hz3 : w.heap.size < w1.heap.size := HM1.out.lt; clear h1)
    | (go_at_call 14; refine Calls.mono (HFI.out _) ?_; rintro e w4 ⟨rfl, hb4⟩; have HB4 : Hid (Below B w w4) := Lib.hid (HB5.out.trans (hb4.mono (Nat.le_trans hBw HB5.out.size))); have HM4 := Lib.hid (HM5.out.on hb4); obtain ⟨hc4, hf4⟩ := bcell hb4; have hz4 : w.heap.size < w4.heap.size := HM4.out.lt; clear hb4))
  refine bodyPost_ret (res_mes rfl rfl (mb6 HM4.out)) rfl ?_
  rw [HM.out]
  exact ⟨⟨_, _, _, rfl, MsgO.bare c 0 _ _⟩, bel6 HB4.out hBw⟩


end Go.Proofs.YthlajcohbpjgkaaDoor
