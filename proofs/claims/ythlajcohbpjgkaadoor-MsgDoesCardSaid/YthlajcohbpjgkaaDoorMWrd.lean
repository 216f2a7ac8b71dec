/-
  The document's Write. (Printed by genwrd.py.)
-/
import Derived.Test.YthlajcohbpjgkaaDoorMWrt
import Derived.Test.YthlajcohbpjgkaaDoorMFir
namespace Go.Proofs.YthlajcohbpjgkaaDoor
open Go.RowKit Go.Shelf Go.Proofs.Mem
set_option linter.unusedVariables false

theorem conv1 (c : UInt8) (x : Int) (hx : x = (c.toNat : Int)) (W : World) :
    Sem.run Tryd.prog (convert 44 9 (.slice (some ⟨W.heap.size, 0, none⟩) 1 1)) (W.alloc (.cells #[.int .u8 x] 5)) = .ok (.string ⟨#[c]⟩) (W.alloc (.cells #[.int .u8 x] 5)) := by
  subst hx
  refine run_convert_bytes_back (P := Tryd.prog) _ 44 9 5 ⟨W.heap.size, 0, none⟩ 1 [c] Tryd.underlying44 Tryd.underlying5 Tryd.underlying9 fun j hj => ?_
  obtain rfl : j = 0 := by simpa using hj
  show (W.alloc _).cell? ⟨W.heap.size, 0, none⟩ = _
  rw [cell_of_row _ _ 0 _ _ (0, 0) (heap_alloc_new W _)]
  rfl


set_option maxRecDepth 100000 in
set_option maxHeartbeats 4000000 in
theorem rwr1 (n r : ByteArray) (A1 A2 : Option Addr) (c1 c2 : Nat) (w : World) (hm : MsgV w w.heap.size (.agg #[.int .i64 1, .string n, .string r, .slice A1 0 c1, .slice A2 0 c2, .int .i64 0]) (M1 n r)) (hf : fitL (M1 n r) = true) (hn : n.size ≤ 31) (hr : r.size = 32) :
    Calls Tryd.prog 16 #[.agg #[.int .i64 1, .string n, .string r, .slice A1 0 c1, .slice A2 0 c2, .int .i64 0]] w fun e w' => e = .returned (.string (writeL (M1 n r))) ∧ Below w.heap.size w w' := by
  have HFI := Lib.hid (fun W (hW : Below w.heap.size w W) => rfit_any _ (M1 n r) W true hf (hm.on hW) (show n.size ≤ maxLen by unfold maxLen; omega))
  have HW := Lib.hid (write_1 n r hf)
  obtain ⟨p, hp⟩ : ∃ p, p = putT n := ⟨_, rfl⟩
  have hps : p.size ≤ 42 := by rw [hp]; have := putT_size n; omega
  have HPT := Lib.hid (fun W => rputt_any n W (by omega))
  rw [← hp] at HPT HW
  have hrs : r.size ≤ 32 := by omega
  have a1 : ¬ 9223372036854775807 < (⟨#[1]⟩ : ByteArray).size + p.size := by show ¬ _ < 1 + _; omega
  have a2 : ¬ 9223372036854775807 < ((⟨#[1]⟩ : ByteArray) ++ p).size + r.size := by rw [ByteArray.size_append]; show ¬ _ < 1 + _ + _; omega
  have a3 : ¬ 9223372036854775807 < 1 + p.size := by omega
  have a4 : ¬ 9223372036854775807 < 1 + p.size + r.size := by omega
  have hcv := conv1 1 1 rfl
  clear hm hf hr hp
  go_enter Tryd.func16, Tryd.ntmps16
  go_wp2_with (go_at_call 8; refine Calls.mono (HFI.out _ ?_) ?_; go_grown; rintro e w1 ⟨rfl, hb1⟩; obtain ⟨hc, hfz⟩ := bcell hb1; have hz : w.heap.size < w1.heap.size := (by have := hb1.size; simp at this; omega); have HB1 : Hid (Below w.heap.size w w1) := Lib.hid (bel (by go_grown) hb1); clear hb1)
  obtain ⟨W0, hg⟩ : ∃ W0 : World, W0 = w1.alloc (.cells #[.int .u8 1] 5) := ⟨_, rfl⟩
  rw [← hg]
  have HB0 : Hid (Below w.heap.size w W0) := (by rw [hg]; exact Lib.hid (HB1.out.alloc HB1.out.size _))
  have E0 : Hid (W0.cell? ⟨w.heap.size, 1, none⟩ = some (.string n)) := Lib.hid (by rw [hg]; go_simp)
  have Z0 : Hid (Addr.block ⟨w.heap.size, 1, none⟩ < W0.heap.size) := Lib.hid (show w.heap.size < W0.heap.size from by have := hz; rw [hg]; simp; omega)
  have E1 : Hid (W0.cell? ⟨w.heap.size, 2, none⟩ = some (.string r)) := Lib.hid (by rw [hg]; go_simp)
  have Z1 : Hid (Addr.block ⟨w.heap.size, 2, none⟩ < W0.heap.size) := Lib.hid (show w.heap.size < W0.heap.size from by have := hz; rw [hg]; simp; omega)
  clear hg
  have HS : Hid (∀ W : World, Below W0.heap.size W0 W → (W.cell? ⟨w.heap.size, 1, none⟩ = some (.string n) ∧ W.cell? ⟨w.heap.size, 2, none⟩ = some (.string r) ∧ Hid (Below W0.heap.size W0 W))) := Lib.hid (fun W hW => ⟨(hW.cell (p := ⟨w.heap.size, 1, none⟩) Z0.out).trans E0.out, (hW.cell (p := ⟨w.heap.size, 2, none⟩) Z1.out).trans E1.out, Lib.hid hW⟩)
  have hS0 := HS.out _ (Below.refl W0.heap.size W0).drew
  go_region_held3 (fun w' => w'.cell? ⟨w.heap.size, 1, none⟩ = some (.string n) ∧ w'.cell? ⟨w.heap.size, 2, none⟩ = some (.string r) ∧ Hid (Below W0.heap.size W0 w'))
    (first
      | exact hS0
      | assumption
      | (go_split_ands; exact HS.out _ (bel (Hid.out ‹Hid (Below W0.heap.size W0 _)›) ‹_›)))
    (first
      | (go_at_call 39; refine Calls.mono (HPT.out _) ?_; rintro e wx ⟨rfl, hBx⟩))
  go_split_ands
  have HBI : Hid (Below W0.heap.size W0 _) := ‹Hid (Below W0.heap.size W0 _)›
  have HBF : Hid (Below w.heap.size w _) := Lib.hid (bel HB0.out HBI.out)
  go_wp2_with fail
  go_ret
  exact ⟨by rw [HW.out, ← app_assoc]; rfl, HBF.out⟩


set_option maxRecDepth 100000 in
set_option maxHeartbeats 4000000 in
theorem rwr4 (n : Nat) (A1 A2 : Option Addr) (c1 c2 : Nat) (w : World) (hm : MsgV w w.heap.size (.agg #[.int .i64 4, .string ⟨#[]⟩, .string ⟨#[]⟩, .slice A1 0 c1, .slice A2 0 c2, .int .i64 (n : Int)]) (M4 n)) (hf : fitL (M4 n) = true) (he : n ≤ 19) :
    Calls Tryd.prog 16 #[.agg #[.int .i64 4, .string ⟨#[]⟩, .string ⟨#[]⟩, .slice A1 0 c1, .slice A2 0 c2, .int .i64 (n : Int)]] w fun e w' => e = .returned (.string (writeL (M4 n))) ∧ Below w.heap.size w w' := by
  have HFI := Lib.hid (fun W (hW : Below w.heap.size w W) => rfit_any _ (M4 n) W true hf (hm.on hW) (show 0 ≤ maxLen by unfold maxLen; omega))
  have HW := Lib.hid (write_4 n hf)
  obtain ⟨p, hp⟩ : ∃ p, p = putB n := ⟨_, rfl⟩
  have hps : p.size ≤ 11 := by rw [hp]; exact putB_size n
  have HPT := Lib.hid (fun W => rput_any n W (by omega))
  rw [← hp] at HPT HW
  have a1 : ¬ 9223372036854775807 < (⟨#[4]⟩ : ByteArray).size + p.size := by show ¬ _ < 1 + _; omega
  have a3 : ¬ 9223372036854775807 < 1 + p.size := by omega
  have hw : IntKind.u64.wrap (n : Int) = (n : Int) := wraps_u64 _ (by omega) (by omega)
  have hcv := conv1 4 4 rfl
  clear hm hf hp
  go_enter Tryd.func16, Tryd.ntmps16
  go_wp2_with (first
    | (go_at_call 8; refine Calls.mono (HFI.out _ ?_) ?_; go_grown; rintro e w1 ⟨rfl, hb1⟩; obtain ⟨hc, hfz⟩ := bcell hb1; have hz : w.heap.size < w1.heap.size := (by have := hb1.size; simp at this; omega); have HB1 : Hid (Below w.heap.size w w1) := Lib.hid (bel (by go_grown) hb1); clear hb1)
    | (go_at_call 40; refine Calls.mono (HPT.out _) ?_; rintro e' wx ⟨rfl, hBx⟩; have HBX : Hid (Below w.heap.size w wx) := Lib.hid (bel (HB1.out.alloc HB1.out.size _) hBx)))
  go_ret
  exact ⟨by rw [HW.out]; rfl, HBX.out⟩


set_option maxRecDepth 100000 in
set_option maxHeartbeats 4000000 in
theorem rwr2 (l : List ByteArray) (A1 A2 : Option Addr) (c1 c2 : Nat) (w : World) (hm : MsgV w w.heap.size (.agg #[.int .i64 2, .string ⟨#[]⟩, .string ⟨#[]⟩, .slice A1 l.length c1, .slice A2 0 c2, .int .i64 0]) (M2 l)) (hf : fitL (M2 l) = true) (hl : ∀ x ∈ l, x.size = 32) (hl4 : l.length ≤ 4) :
    Calls Tryd.prog 16 #[.agg #[.int .i64 2, .string ⟨#[]⟩, .string ⟨#[]⟩, .slice A1 l.length c1, .slice A2 0 c2, .int .i64 0]] w fun e w' => e = .returned (.string (writeL (M2 l))) ∧ Below w.heap.size w w' := by
  have HFI := Lib.hid (fun W (hW : Below w.heap.size w W) => rfit_any _ (M2 l) W true hf (hm.on hW) (show 0 ≤ maxLen by unfold maxLen; omega))
  have HW := Lib.hid (wr2_all l hf)
  have HL := Lib.hid hl
  obtain ⟨ks, os, he, hk, ho⟩ := hm
  have hks : ks = .slice A1 l.length c1 := by
    unfold msgA at he
    injection he with he
    have := congrArg (fun x : Array Value => x[3]?) he
    simpa using this.symm
  subst hks
  obtain ⟨A1', c1', e1, a1, b1, r1⟩ := hk
  injection e1 with e1 _ e3
  subst e1 e3
  have HR1 := Lib.hid r1
  obtain ⟨p, hp⟩ : ∃ p, p = putB l.length := ⟨_, rfl⟩
  have hps : p.size ≤ 11 := by rw [hp]; exact putB_size _
  have HPT := Lib.hid (fun W => rput_any l.length W (by omega))
  have HZ := Lib.hid (wr2_zero l)
  rw [← hp] at HPT HZ
  have q1 : ¬ 9223372036854775807 < (⟨#[2]⟩ : ByteArray).size + p.size := by show ¬ _ < 1 + _; omega
  have q3 : ¬ 9223372036854775807 < 1 + p.size := by omega
  have hw : IntKind.u64.wrap (l.length : Int) = (l.length : Int) := wraps_u64 _ (by omega) (by omega)
  have hcv := conv1 2 2 rfl
  clear hf hp he r1 ho hl
  go_enter Tryd.func16, Tryd.ntmps16
  go_wp2_with (first
    | (go_at_call 8; refine Calls.mono (HFI.out _ ?_) ?_; go_grown; rintro e w1 ⟨rfl, hb1⟩; obtain ⟨hc, hfz⟩ := bcell hb1; have hz : w.heap.size < w1.heap.size := (by have := hb1.size; simp at this; omega); have HB1 : Hid (Below w.heap.size w w1) := Lib.hid (bel (by go_grown) hb1); clear hb1)
    | (go_at_call 40; refine Calls.mono (HPT.out _) ?_; rintro e' wx ⟨rfl, hBx⟩; have HBX : Hid (Below w.heap.size w wx) := Lib.hid (bel (HB1.out.alloc HB1.out.size _) hBx); have p3 : wx.cell? ⟨w.heap.size, 3, none⟩ = some (.slice A1 l.length c1) := (hBx.cell (p := ⟨w.heap.size, 3, none⟩) (by have := hz; simp; omega)).trans (by go_simp); clear hBx))
  go_loop [3, 4] (fun sv iv => ∃ k : Nat, iv = .int .i64 k ∧ k ≤ l.length ∧ sv = .string (wr2 l k)) (fun _ iv => l.length + 1 - (intOf iv).toNat)
  case atStart => exact ⟨0, rfl, Nat.zero_le _, by rw [HZ.out]⟩
  case round =>
    obtain ⟨k, rfl, hk, rfl⟩ := hrel
    have hsz := wr2_size l k HL.out hl4
    by_cases hlt : k < l.length
    · obtain ⟨x, hx⟩ : ∃ x, l[k]? = some x := ⟨l[k], List.getElem?_eq_getElem hlt⟩
      obtain ⟨b1, o1, rfl, hb1', q0⟩ := row_key HR1.out hx
      have s0 := (HBX.out.cell (p := ⟨b1, o1 + k, none⟩) hb1').trans q0
      have i1 : (k : Int) < (l.length : Int) := by omega
      have i0 : (0 : Int) ≤ (k : Int) := by omega
      have HS := Lib.hid (wr2_succ l k x hx)
      have hxs : x.size ≤ 32 := Nat.le_of_eq (HL.out x (List.mem_of_getElem? hx))
      have q5 : ¬ 9223372036854775807 < (wr2 l k).size + x.size := by omega
      clear hx q0
      go_wp2_with fail
      go_round
      case rel => exact ⟨k + 1, by go_num, by omega, by rw [HS.out]⟩
      case measure => simp [intOf]; omega
    · obtain rfl : k = l.length := by omega
      go_wp2_with fail
      go_ret
      exact ⟨by rw [← HW.out]; rfl, HBX.out⟩


set_option maxRecDepth 100000 in
set_option maxHeartbeats 4000000 in
theorem rwr3 (l : List ObjL) (A1 A2 : Option Addr) (c1 c2 : Nat) (w : World) (hm : MsgV w w.heap.size (.agg #[.int .i64 3, .string ⟨#[]⟩, .string ⟨#[]⟩, .slice A1 0 c1, .slice A2 l.length c2, .int .i64 0]) (M3 l)) (hf : fitL (M3 l) = true) (hl : ∀ x ∈ l, x.1.size = 32 ∧ x.2.size ≤ 40000) (hl4 : l.length ≤ 4) :
    Calls Tryd.prog 16 #[.agg #[.int .i64 3, .string ⟨#[]⟩, .string ⟨#[]⟩, .slice A1 0 c1, .slice A2 l.length c2, .int .i64 0]] w fun e w' => e = .returned (.string (writeL (M3 l))) ∧ Below w.heap.size w w' := by
  have HFI := Lib.hid (fun W (hW : Below w.heap.size w W) => rfit_any _ (M3 l) W true hf (hm.on hW) (show 0 ≤ maxLen by unfold maxLen; omega))
  have HW := Lib.hid (wr3_all l hf)
  have HL := Lib.hid hl
  obtain ⟨ks, os, he, hk, ho⟩ := hm
  have hks : os = .slice A2 l.length c2 := by
    unfold msgA at he
    injection he with he
    have := congrArg (fun x : Array Value => x[4]?) he
    simpa using this.symm
  subst hks
  obtain ⟨A1', c1', e1, a1, b1, r1⟩ := ho
  injection e1 with e1 _ e3
  subst e1 e3
  have HR1 := Lib.hid r1
  obtain ⟨p, hp⟩ : ∃ p, p = putB l.length := ⟨_, rfl⟩
  have hps : p.size ≤ 11 := by rw [hp]; exact putB_size _
  have HPT := Lib.hid (fun W => rput_any l.length W (by omega))
  have HZ := Lib.hid (wr3_zero l)
  rw [← hp] at HPT HZ
  have q1 : ¬ 9223372036854775807 < (⟨#[3]⟩ : ByteArray).size + p.size := by show ¬ _ < 1 + _; omega
  have q3 : ¬ 9223372036854775807 < 1 + p.size := by omega
  have hw : IntKind.u64.wrap (l.length : Int) = (l.length : Int) := wraps_u64 _ (by omega) (by omega)
  have hcv := conv1 3 3 rfl
  clear hf hp he r1 hk hl
  go_enter Tryd.func16, Tryd.ntmps16
  go_wp2_with (first
    | (go_at_call 8; refine Calls.mono (HFI.out _ ?_) ?_; go_grown; rintro e w1 ⟨rfl, hb1⟩; obtain ⟨hc, hfz⟩ := bcell hb1; have hz : w.heap.size < w1.heap.size := (by have := hb1.size; simp at this; omega); have HB1 : Hid (Below w.heap.size w w1) := Lib.hid (bel (by go_grown) hb1); clear hb1)
    | (go_at_call 40; refine Calls.mono (HPT.out _) ?_; rintro e' wx ⟨rfl, hBx⟩; have HBX : Hid (Below w.heap.size w wx) := Lib.hid (bel (HB1.out.alloc HB1.out.size _) hBx); have HXZ : Hid (w.heap.size < wx.heap.size) := Lib.hid (by have := hz; have := hBx.size; simp at this; omega); have p3 : wx.cell? ⟨w.heap.size, 4, none⟩ = some (.slice A2 l.length c2) := (hBx.cell (p := ⟨w.heap.size, 4, none⟩) (by have := hz; simp; omega)).trans (by go_simp); clear hBx))
  have HP3 := Lib.hid p3
  clear p3
  go_loopw [3, 5] (fun sv iv wr => ∃ (k : Nat) (W0 : World), W0 = wr ∧ iv = .int .i64 k ∧ k ≤ l.length ∧ sv = .string (wr3 l k) ∧ Hid (Below wx.heap.size wx wr)) (fun _ iv _ => l.length + 1 - (intOf iv).toNat)
  case atStart => exact ⟨0, _, rfl, rfl, Nat.zero_le _, by rw [HZ.out], Lib.hid (Below.refl _ _)⟩
  case round =>
    obtain ⟨k, W0, hW0, rfl, hk, rfl, hBr⟩ := hrel
    subst hW0
    have hsz := wr3_size l k HL.out hl4
    have p4 := (hBr.out.cell (p := ⟨w.heap.size, 4, none⟩) HXZ.out).trans HP3.out
    have HBW : Hid (Below w.heap.size w W0) := Lib.hid (bel HBX.out hBr.out)
    have HB0 := HBW
    by_cases hlt : k < l.length
    · obtain ⟨x, hx⟩ : ∃ x, l[k]? = some x := ⟨l[k], List.getElem?_eq_getElem hlt⟩
      obtain ⟨b1, o1, rfl, hb1', q0, q2⟩ := row_obj HR1.out hx
      obtain ⟨x1, x2⟩ := x
      dsimp only at q0 q2
      have s0 := (HBW.out.cell (p := ⟨b1, o1 + k * 2, none⟩) hb1').trans q0
      have s1 := (HBW.out.cell (p := ⟨b1, o1 + k * 2 + 1, none⟩) hb1').trans q2
      have i1 : (k : Int) < (l.length : Int) := by omega
      have i0 : (0 : Int) ≤ (k : Int) := by omega
      have HSS := Lib.hid (wr3_succ l k (x1, x2) hx)
      have hxs := HL.out (x1, x2) (List.mem_of_getElem? hx)
      dsimp only at hxs HSS
      obtain ⟨g, hg'⟩ : ∃ g, g = putT x2 := ⟨_, rfl⟩
      have hgs : g.size ≤ 40011 := by rw [hg']; have := putT_size x2; omega
      have HPX := Lib.hid (fun W => rputt_any x2 W (by omega))
      rw [← hg'] at HPX HSS
      have q5 : ¬ 9223372036854775807 < (wr3 l k).size + x1.size := by omega
      have q6 : ¬ 9223372036854775807 < (wr3 l k ++ x1).size + g.size := by rw [ByteArray.size_append]; omega
      have q7 : ¬ 9223372036854775807 < (wr3 l k).size + x1.size + g.size := by omega
      have hb1x : b1 < wx.heap.size := by have := HBX.out.size; omega
      have hxs' : x1.size ≤ 32 := by omega
      clear hx q0 q2 hg' hxs
      go_wp2_with fail
      have E0 := Lib.hid p4
      have Z0 : Hid (Addr.block ⟨w.heap.size, 4, none⟩ < W0.heap.size) := Lib.hid (show w.heap.size < W0.heap.size from by have := hBr.out.size; have := HXZ.out; omega)
      have E1 := Lib.hid s0
      have Z1 : Hid (Addr.block ⟨b1, o1 + k * 2, none⟩ < W0.heap.size) := Lib.hid (show b1 < W0.heap.size from by have := hBr.out.size; omega)
      have E2 := Lib.hid s1
      have Z2 : Hid (Addr.block ⟨b1, o1 + k * 2 + 1, none⟩ < W0.heap.size) := Lib.hid (show b1 < W0.heap.size from by have := hBr.out.size; omega)
      clear p4 s0 s1
      have HS : Hid (∀ W : World, Below W0.heap.size W0 W → (W.cell? ⟨w.heap.size, 4, none⟩ = some (.slice (some ⟨b1, o1, none⟩) l.length c2) ∧ W.cell? ⟨b1, o1 + k * 2, none⟩ = some (.string x1) ∧ W.cell? ⟨b1, o1 + k * 2 + 1, none⟩ = some (.string x2) ∧ Hid (Below W0.heap.size W0 W))) := Lib.hid (fun W hW => ⟨(hW.cell (p := ⟨w.heap.size, 4, none⟩) Z0.out).trans E0.out, (hW.cell (p := ⟨b1, o1 + k * 2, none⟩) Z1.out).trans E1.out, (hW.cell (p := ⟨b1, o1 + k * 2 + 1, none⟩) Z2.out).trans E2.out, Lib.hid hW⟩)
      have hS0 := HS.out _ (Below.refl W0.heap.size W0).drew
      go_region_held3 (fun w' => w'.cell? ⟨w.heap.size, 4, none⟩ = some (.slice (some ⟨b1, o1, none⟩) l.length c2) ∧ w'.cell? ⟨b1, o1 + k * 2, none⟩ = some (.string x1) ∧ w'.cell? ⟨b1, o1 + k * 2 + 1, none⟩ = some (.string x2) ∧ Hid (Below W0.heap.size W0 w'))
        (first
          | exact hS0
          | assumption
          | (go_split_ands; exact HS.out _ (bel (Hid.out ‹Hid (Below W0.heap.size W0 _)›) ‹_›)))
        (first
          | (go_at_call 39; refine Calls.mono (HPX.out _) ?_; rintro e wy ⟨rfl, hBy⟩))
      go_split_ands
      have HBI : Hid (Below W0.heap.size W0 _) := ‹Hid (Below W0.heap.size W0 _)›
      have HBF : Hid (Below w.heap.size w _) := Lib.hid (bel HB0.out HBI.out)
      go_wp2_with fail
      go_roundw
      case rel => exact ⟨k + 1, _, rfl, by go_num, by omega, by rw [HSS.out], Lib.hid (bel hBr.out HBI.out)⟩
      case measure => simp [intOf]; omega
    · obtain rfl : k = l.length := by omega
      go_wp2_with fail
      go_ret
      exact ⟨by rw [← HW.out]; rfl, HBW.out⟩

end Go.Proofs.YthlajcohbpjgkaaDoor
