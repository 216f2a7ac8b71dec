/-
  The program's Write. (Printed by genwrp.py.)
-/
import Derived.Test.YthlajcohbpjgkaaDoorMWrt
import Derived.Deep.RegionHeld3
namespace Go.Proofs.YthlajcohbpjgkaaDoor
open Go.RowKit Go.Shelf Go.Proofs.Mem
set_option linter.unusedVariables false


set_option maxRecDepth 100000 in
set_option maxHeartbeats 4000000 in
theorem mwr1 (n r : ByteArray) (A1 A2 : Option Addr) (c1 c2 : Nat) (w : World) (hm : MsgV w w.heap.size (.agg #[.int .i64 1, .string n, .string r, .slice A1 0 c1, .slice A2 0 c2, .int .i64 0]) (M1 n r)) (hf : fitL (M1 n r) = true) (hn : n.size ≤ 31) (hr : r.size = 32) :
    Calls Tryd.prog 10 #[.agg #[.int .i64 1, .string n, .string r, .slice A1 0 c1, .slice A2 0 c2, .int .i64 0]] w fun e w' => e = .returned (.string (writeL (M1 n r))) ∧ Below w.heap.size w w' := by
  have HFI := Lib.hid (fun W (hW : Below w.heap.size w W) => mfit_any _ (M1 n r) W true hf (hm.on hW) (show n.size ≤ maxLen by unfold maxLen; omega))
  have HW := Lib.hid (write_1 n r hf)
  obtain ⟨p, hp⟩ : ∃ p, p = putT n := ⟨_, rfl⟩
  have hps : p.size ≤ 42 := by rw [hp]; have := putT_size n; omega
  have HPT := Lib.hid (fun W => vputt_any n W (by omega))
  rw [← hp] at HPT HW
  have hrs : r.size ≤ 32 := by omega
  have a1 : ¬ 9223372036854775807 < p.size + r.size := by omega
  have HSZ : Hid ((⟨#[1]⟩ : ByteArray).size + (p ++ r).size ≤ 1000000) := Lib.hid (by rw [ByteArray.size_append]; show 1 + _ ≤ _; omega)
  clear hm hf hr hp
  go_enter Tryd.func10, Tryd.ntmps10
  go_wp2_with (first
    | (go_at_call 14; refine Calls.mono (HFI.out _ ?_) ?_; go_grown; rintro e w1 ⟨rfl, hb1⟩; obtain ⟨hc, hfz⟩ := bcell hb1; have hz : w.heap.size < w1.heap.size := (by have := hb1.size; simp at this; omega); have HB1 : Hid (Below w.heap.size w w1) := Lib.hid (bel (by go_grown) hb1); clear hb1)
    | (go_at_call 19; refine Calls.mono (bl_byte w1.heap.size w1.heap.size ⟨#[]⟩ 1 _ (Bld.fresh w1) (by decide) (by decide) (by simp)) ?_; rintro e w2 ⟨rfl, hbl, hk2⟩; rw [nil_app] at hbl; have HBL : Hid (Bld w2 w1.heap.size w1.heap.size ⟨#[1]⟩) := Lib.hid hbl; have HK2 : Hid (Kp w1.heap.size w1.heap.size w1 w2) := Lib.hid ((Kp.of ((Below.refl _ _).alloc (Nat.le_refl _) _) (Nat.le_refl _)).trans hk2); have p0 : w2.cell? ⟨w.heap.size, 0, none⟩ = some (.int .i64 1) := (hk2.1.cell (p := ⟨w.heap.size, 0, none⟩) hz).trans (by go_simp); have p1 : w2.cell? ⟨w.heap.size, 1, none⟩ = some (.string n) := (hk2.1.cell (p := ⟨w.heap.size, 1, none⟩) hz).trans (by go_simp); have p2 : w2.cell? ⟨w.heap.size, 2, none⟩ = some (.string r) := (hk2.1.cell (p := ⟨w.heap.size, 2, none⟩) hz).trans (by go_simp); clear hbl hk2))
  have HLE : Hid (w1.heap.size ≤ w2.heap.size) := Lib.hid HK2.out.size
  have E1 := Lib.hid p1
  have E2 := Lib.hid p2
  have HZ := Lib.hid hz
  clear p1 p2
  have HS : Hid (∀ W : World, Kp w1.heap.size w1.heap.size w2 W → (W.cell? ⟨w.heap.size, 1, none⟩ = some (.string n) ∧ W.cell? ⟨w.heap.size, 2, none⟩ = some (.string r) ∧ Hid (Kp w1.heap.size w1.heap.size w2 W))) := Lib.hid (fun W hW => ⟨(hW.1.cell (p := ⟨w.heap.size, 1, none⟩) HZ.out).trans E1.out, (hW.1.cell (p := ⟨w.heap.size, 2, none⟩) HZ.out).trans E2.out, Lib.hid hW⟩)
  have hS0 := HS.out _ (show Kp w1.heap.size w1.heap.size w2 w2.drew from (Kp.refl _ _ w2).put (Below.refl _ _).drew HLE.out)
  go_region_held3 (fun w' => w'.cell? ⟨w.heap.size, 1, none⟩ = some (.string n) ∧ w'.cell? ⟨w.heap.size, 2, none⟩ = some (.string r) ∧ Hid (Kp w1.heap.size w1.heap.size w2 w'))
    (first
      | exact hS0
      | assumption
      | (go_split_ands; exact HS.out _ (Kp.trans (Hid.out ‹Hid (Kp w1.heap.size w1.heap.size w2 _)›) ‹Kp _ _ _ _›)))
    (first
      | (go_at_call 21; refine Calls.mono (HPT.out _) ?_; rintro e wx ⟨rfl, hBx⟩; have HP : Hid (Below w2.heap.size w2 wx) := Lib.hid (bel (by first | exact (Below.refl _ _).drew | exact below_drewN (Below.refl _ _) _ | exact Below.refl _ _) hBx); have hKx : Kp w1.heap.size w1.heap.size _ wx := Kp.of hBx (Nat.le_trans HLE.out (Kp.size (Hid.out (by first | assumption | (go_split_ands; assumption))))))
      | (go_at_call 20; refine Calls.mono (bl_str w1.heap.size w1.heap.size ⟨#[1]⟩ (p ++ r) _ (HBL.out.on ?_) HSZ.out ?_) ?_; (first | exact HP.out | exact HP.out.drew | exact below_drewN HP.out _); exact (Nat.le_trans HLE.out (Kp.size (Hid.out (by first | assumption | (go_split_ands; assumption))))); rintro e wy ⟨rfl, hbl, hKy⟩; have HBL2 := Lib.hid hbl))
  go_split_ands
  have HKF : Hid (Kp w1.heap.size w1.heap.size w2 _) := ‹Hid (Kp w1.heap.size w1.heap.size w2 _)›
  go_wp2_with (go_at_call 24; refine Calls.mono (bl_end w1.heap.size w1.heap.size _ _ (by first | exact HBL2.out | exact HBL2.out.on (Below.refl _ _).drew | exact HBL2.out.on (below_drewN (Below.refl _ _) _)) ?_) ?_; exact Nat.le_trans HLE.out HKF.out.size; rintro e wz ⟨rfl, hBz⟩)
  go_ret
  exact ⟨by rw [HW.out]; rfl, bel HB1.out ((HK2.out.trans HKF.out).1.trans hBz)⟩


set_option maxRecDepth 100000 in
set_option maxHeartbeats 4000000 in
theorem mwr4 (n : Nat) (A1 A2 : Option Addr) (c1 c2 : Nat) (w : World) (hm : MsgV w w.heap.size (.agg #[.int .i64 4, .string ⟨#[]⟩, .string ⟨#[]⟩, .slice A1 0 c1, .slice A2 0 c2, .int .i64 (n : Int)]) (M4 n)) (hf : fitL (M4 n) = true) (he : n ≤ 19) :
    Calls Tryd.prog 10 #[.agg #[.int .i64 4, .string ⟨#[]⟩, .string ⟨#[]⟩, .slice A1 0 c1, .slice A2 0 c2, .int .i64 (n : Int)]] w fun e w' => e = .returned (.string (writeL (M4 n))) ∧ Below w.heap.size w w' := by
  have HFI := Lib.hid (fun W (hW : Below w.heap.size w W) => mfit_any _ (M4 n) W true hf (hm.on hW) (show 0 ≤ maxLen by unfold maxLen; omega))
  have HW := Lib.hid (write_4 n hf)
  obtain ⟨p, hp⟩ : ∃ p, p = putB n := ⟨_, rfl⟩
  have hps : p.size ≤ 11 := by rw [hp]; exact putB_size n
  have HPT := Lib.hid (fun W => vput_any n W (by omega))
  rw [← hp] at HPT HW
  have HSZ : Hid ((⟨#[4]⟩ : ByteArray).size + p.size ≤ 1000000) := Lib.hid (by show 1 + _ ≤ _; omega)
  have hw : IntKind.u64.wrap (n : Int) = (n : Int) := wraps_u64 _ (by omega) (by omega)
  clear hm hf hp
  go_enter Tryd.func10, Tryd.ntmps10
  go_wp2_with (first
    | (go_at_call 14; refine Calls.mono (HFI.out _ ?_) ?_; go_grown; rintro e w1 ⟨rfl, hb1⟩; obtain ⟨hc, hfz⟩ := bcell hb1; have hz : w.heap.size < w1.heap.size := (by have := hb1.size; simp at this; omega); have HB1 : Hid (Below w.heap.size w w1) := Lib.hid (bel (by go_grown) hb1); clear hb1)
    | (go_at_call 19; refine Calls.mono (bl_byte w1.heap.size w1.heap.size ⟨#[]⟩ 4 _ (Bld.fresh w1) (by decide) (by decide) (by simp)) ?_; rintro e w2 ⟨rfl, hbl, hk2⟩; rw [nil_app] at hbl; have HBL : Hid (Bld w2 w1.heap.size w1.heap.size ⟨#[4]⟩) := Lib.hid hbl; have HK2 : Hid (Kp w1.heap.size w1.heap.size w1 w2) := Lib.hid ((Kp.of ((Below.refl _ _).alloc (Nat.le_refl _) _) (Nat.le_refl _)).trans hk2); have p0 : w2.cell? ⟨w.heap.size, 0, none⟩ = some (.int .i64 4) := (hk2.1.cell (p := ⟨w.heap.size, 0, none⟩) hz).trans (by go_simp); have p5 : w2.cell? ⟨w.heap.size, 5, none⟩ = some (.int .i64 (n : Int)) := (hk2.1.cell (p := ⟨w.heap.size, 5, none⟩) hz).trans (by go_simp); clear hbl hk2)
    | (go_at_call 22; refine Calls.mono (HPT.out _) ?_; rintro e' wx ⟨rfl, hBx⟩; have HKX : Hid (Kp w1.heap.size w1.heap.size w1 wx) := Lib.hid (HK2.out.put hBx (Nat.le_refl _)); have HBLX := Lib.hid (HBL.out.on hBx);  clear hBx)
    | (go_at_call 20; (with_reducible refine Calls.mono (bl_str w1.heap.size w1.heap.size ⟨#[4]⟩ p _ HBLX.out HSZ.out HKX.out.size) ?_); rintro e' wy ⟨rfl, hbl, hKy⟩; have HBL2 := Lib.hid hbl; have HKY : Hid (Kp w1.heap.size w1.heap.size w1 wy) := Lib.hid (HKX.out.trans hKy);  clear hbl hKy)
    | (go_at_call 24; refine Calls.mono (bl_end w1.heap.size w1.heap.size _ _ (by first | exact HBL2.out | exact HBL2.out.on (Below.refl _ _).drew | exact HBL2.out.on (below_drewN (Below.refl _ _) _)) ?_) ?_; exact HKY.out.size; rintro e wz ⟨rfl, hBz⟩))
  go_ret
  exact ⟨by rw [HW.out]; rfl, bel HB1.out (HKY.out.1.trans hBz)⟩


set_option maxRecDepth 100000 in
set_option maxHeartbeats 4000000 in
theorem mwr2 (l : List ByteArray) (A1 A2 : Option Addr) (c1 c2 : Nat) (w : World) (hm : MsgV w w.heap.size (.agg #[.int .i64 2, .string ⟨#[]⟩, .string ⟨#[]⟩, .slice A1 l.length c1, .slice A2 0 c2, .int .i64 0]) (M2 l)) (hf : fitL (M2 l) = true) (hl : ∀ x ∈ l, x.size = 32) (hl4 : l.length ≤ 4) :
    Calls Tryd.prog 10 #[.agg #[.int .i64 2, .string ⟨#[]⟩, .string ⟨#[]⟩, .slice A1 l.length c1, .slice A2 0 c2, .int .i64 0]] w fun e w' => e = .returned (.string (writeL (M2 l))) ∧ Below w.heap.size w w' := by
  have HFI := Lib.hid (fun W (hW : Below w.heap.size w W) => mfit_any _ (M2 l) W true hf (hm.on hW) (show 0 ≤ maxLen by unfold maxLen; omega))
  have HW := Lib.hid (write_2 l hf)
  obtain ⟨ks, os, he, hk, ho⟩ := hm
  have hks : ks = .slice A1 l.length c1 := by
    unfold msgA at he
    injection he with he
    have := congrArg (fun x : Array Value => x[3]?) he
    simpa using this.symm
  subst hks
  obtain ⟨p, hp⟩ : ∃ p, p = putB l.length := ⟨_, rfl⟩
  have hps : p.size ≤ 11 := by rw [hp]; exact putB_size _
  have HPT := Lib.hid (fun W => vput_any l.length W (by omega))
  obtain ⟨q, hq⟩ : ∃ q, q = catB l := ⟨_, rfl⟩
  have hqs : q.size ≤ 128 := by rw [hq]; have := catB_size l 32 (fun x hx => Nat.le_of_eq (hl x hx)); omega
  have HJO := Lib.hid (fun W (hW : Below w.heap.size w W) => join_any (.slice A1 l.length c1) l W (hk.on hW) (fun x hx => by have := hl x hx; omega) (by omega))
  rw [← hp] at HPT HW
  rw [← hq] at HJO HW
  have HSZ : Hid ((⟨#[2]⟩ : ByteArray).size + p.size ≤ 1000000) := Lib.hid (by show 1 + _ ≤ _; omega)
  have HSQ : Hid (((⟨#[2]⟩ : ByteArray) ++ p).size + q.size ≤ 1000000) := Lib.hid (by rw [ByteArray.size_append]; show 1 + _ + _ ≤ _; omega)
  have hw : IntKind.u64.wrap (l.length : Int) = (l.length : Int) := wraps_u64 _ (by omega) (by omega)
  have hll : l.length ≤ 4 := hl4
  clear hf hp hl hq he hk ho
  go_enter Tryd.func10, Tryd.ntmps10
  go_wp2_with (first
    | (go_at_call 14; refine Calls.mono (HFI.out _ ?_) ?_; go_grown; rintro e w1 ⟨rfl, hb1⟩; obtain ⟨hc, hfz⟩ := bcell hb1; have hz : w.heap.size < w1.heap.size := (by have := hb1.size; simp at this; omega); have HB1 : Hid (Below w.heap.size w w1) := Lib.hid (bel (by go_grown) hb1); clear hb1)
    | (go_at_call 19; refine Calls.mono (bl_byte w1.heap.size w1.heap.size ⟨#[]⟩ 2 _ (Bld.fresh w1) (by decide) (by decide) (by simp)) ?_; rintro e w2 ⟨rfl, hbl, hk2⟩; rw [nil_app] at hbl; have HBL : Hid (Bld w2 w1.heap.size w1.heap.size ⟨#[2]⟩) := Lib.hid hbl; have HK2 : Hid (Kp w1.heap.size w1.heap.size w1 w2) := Lib.hid ((Kp.of ((Below.refl _ _).alloc (Nat.le_refl _) _) (Nat.le_refl _)).trans hk2); have p0 : w2.cell? ⟨w.heap.size, 0, none⟩ = some (.int .i64 2) := (hk2.1.cell (p := ⟨w.heap.size, 0, none⟩) hz).trans (by go_simp); have p3 : w2.cell? ⟨w.heap.size, 3, none⟩ = some (.slice A1 l.length c1) := (hk2.1.cell (p := ⟨w.heap.size, 3, none⟩) hz).trans (by go_simp); have p4 : w2.cell? ⟨w.heap.size, 4, none⟩ = some (.slice A2 0 c2) := (hk2.1.cell (p := ⟨w.heap.size, 4, none⟩) hz).trans (by go_simp); clear hbl hk2)
    | (go_at_call 22; refine Calls.mono (HPT.out _) ?_; rintro e' wx ⟨rfl, hBx⟩; have HKX : Hid (Kp w1.heap.size w1.heap.size w1 wx) := Lib.hid (HK2.out.put hBx (Nat.le_refl _)); have HBLX := Lib.hid (HBL.out.on hBx); have x3 : wx.cell? ⟨w.heap.size, 3, none⟩ = some (.slice A1 l.length c1) := (hBx.cell (p := ⟨w.heap.size, 3, none⟩) (Nat.lt_of_lt_of_le hz HK2.out.size)).trans (by go_simp); have x4 : wx.cell? ⟨w.heap.size, 4, none⟩ = some (.slice A2 0 c2) := (hBx.cell (p := ⟨w.heap.size, 4, none⟩) (Nat.lt_of_lt_of_le hz HK2.out.size)).trans (by go_simp);  clear hBx)
    | (go_at_call 20; (with_reducible refine Calls.mono (bl_str w1.heap.size w1.heap.size ⟨#[2]⟩ p _ HBLX.out HSZ.out HKX.out.size) ?_); rintro e' wy ⟨rfl, hbl, hKy⟩; have HBL2 := Lib.hid hbl; have HKY : Hid (Kp w1.heap.size w1.heap.size w1 wy) := Lib.hid (HKX.out.trans hKy); have y3 : wy.cell? ⟨w.heap.size, 3, none⟩ = some (.slice A1 l.length c1) := (hKy.1.cell (p := ⟨w.heap.size, 3, none⟩) hz).trans (by go_simp); have y4 : wy.cell? ⟨w.heap.size, 4, none⟩ = some (.slice A2 0 c2) := (hKy.1.cell (p := ⟨w.heap.size, 4, none⟩) hz).trans (by go_simp);  clear hbl hKy)
    | (go_at_call 20; (with_reducible refine Calls.mono (bl_str w1.heap.size w1.heap.size (⟨#[2]⟩ ++ p) q _ HBLJ.out HSQ.out HKJ.out.size) ?_); rintro e' wv ⟨rfl, hbl, hKv⟩; have HBL3 := Lib.hid hbl; have HKV : Hid (Kp w1.heap.size w1.heap.size w1 wv) := Lib.hid (HKJ.out.trans hKv); have v3 : wv.cell? ⟨w.heap.size, 3, none⟩ = some (.slice A1 l.length c1) := (hKv.1.cell (p := ⟨w.heap.size, 3, none⟩) hz).trans (by go_simp); have v4 : wv.cell? ⟨w.heap.size, 4, none⟩ = some (.slice A2 0 c2) := (hKv.1.cell (p := ⟨w.heap.size, 4, none⟩) hz).trans (by go_simp);  clear hbl hKv)
    | (go_at_call 23; refine Calls.mono (HJO.out _ ?_) ?_; exact bel HB1.out HKY.out.1; rintro e' wj ⟨rfl, hBj⟩; have HKJ : Hid (Kp w1.heap.size w1.heap.size w1 wj) := Lib.hid (HKY.out.put hBj (Nat.le_refl _)); have HBLJ := Lib.hid (HBL2.out.on hBj); have j3 : wj.cell? ⟨w.heap.size, 3, none⟩ = some (.slice A1 l.length c1) := (hBj.cell (p := ⟨w.heap.size, 3, none⟩) (Nat.lt_of_lt_of_le hz HKY.out.size)).trans (by go_simp); have j4 : wj.cell? ⟨w.heap.size, 4, none⟩ = some (.slice A2 0 c2) := (hBj.cell (p := ⟨w.heap.size, 4, none⟩) (Nat.lt_of_lt_of_le hz HKY.out.size)).trans (by go_simp);  clear hBj)
    | fail)
  refine wp_loop_rounds 1 ?_
  rw [rounds_succ]
  go_wp2_with (go_at_call 24; refine Calls.mono (bl_end w1.heap.size w1.heap.size _ _ (by first | exact HBL3.out | exact HBL3.out.on (Below.refl _ _).drew | exact HBL3.out.on (below_drewN (Below.refl _ _) _)) ?_) ?_; exact HKV.out.size; rintro e wz ⟨rfl, hBz⟩)
  go_ret
  exact ⟨by rw [HW.out, ← app_assoc]; rfl, bel HB1.out (HKV.out.1.trans hBz)⟩


set_option maxRecDepth 100000 in
set_option maxHeartbeats 4000000 in
theorem mwr3 (l : List ObjL) (A1 A2 : Option Addr) (c1 c2 : Nat) (w : World) (hm : MsgV w w.heap.size (.agg #[.int .i64 3, .string ⟨#[]⟩, .string ⟨#[]⟩, .slice A1 0 c1, .slice A2 l.length c2, .int .i64 0]) (M3 l)) (hf : fitL (M3 l) = true) (hl : ∀ x ∈ l, x.1.size = 32 ∧ x.2.size ≤ 40000) (hl4 : l.length ≤ 4) :
    Calls Tryd.prog 10 #[.agg #[.int .i64 3, .string ⟨#[]⟩, .string ⟨#[]⟩, .slice A1 0 c1, .slice A2 l.length c2, .int .i64 0]] w fun e w' => e = .returned (.string (writeL (M3 l))) ∧ Below w.heap.size w w' := by
  have HFI := Lib.hid (fun W (hW : Below w.heap.size w W) => mfit_any _ (M3 l) W true hf (hm.on hW) (show 0 ≤ maxLen by unfold maxLen; omega))
  have HW := Lib.hid (wr3_all l hf)
  have HL := Lib.hid hl
  obtain ⟨ks, os, he, hk, ho⟩ := hm
  have hks : os = .slice A2 l.length c2 := by
    unfold msgA at he
    injection he with he
    have := congrArg (fun x : Array Value => x[4]?) he
    simpa using this.symm
  have hks2 : ks = .slice A1 0 c1 := by
    unfold msgA at he
    injection he with he
    have := congrArg (fun x : Array Value => x[3]?) he
    simpa using this.symm
  subst hks hks2
  obtain ⟨A1', c1', e1, a1, b1, r1⟩ := ho
  injection e1 with e1 _ e3
  subst e1 e3
  have HR1 := Lib.hid r1
  obtain ⟨p, hp⟩ : ∃ p, p = putB l.length := ⟨_, rfl⟩
  have hps : p.size ≤ 11 := by rw [hp]; exact putB_size _
  have HPT := Lib.hid (fun W => vput_any l.length W (by omega))
  obtain ⟨q, hq⟩ : ∃ q, q = catB [] := ⟨_, rfl⟩
  have hqs : q.size ≤ 0 := by rw [hq]; exact Nat.le_refl 0
  have HJO := Lib.hid (fun W (hW : Below w.heap.size w W) => join_any (.slice A1 0 c1) [] W (hk.on hW) (fun x hx => by cases hx) (by decide))
  have HZ : Hid (⟨#[3]⟩ ++ p ++ q = wr3 l 0) := Lib.hid (by rw [wr3_zero, hp, hq]; exact app_nil _)
  rw [← hp] at HPT
  rw [← hq] at HJO
  have HSZ : Hid ((⟨#[3]⟩ : ByteArray).size + p.size ≤ 1000000) := Lib.hid (by show 1 + _ ≤ _; omega)
  have HSQ : Hid (((⟨#[3]⟩ : ByteArray) ++ p).size + q.size ≤ 1000000) := Lib.hid (by rw [ByteArray.size_append]; show 1 + _ + _ ≤ _; omega)
  have hw : IntKind.u64.wrap (l.length : Int) = (l.length : Int) := wraps_u64 _ (by omega) (by omega)
  clear hf hp hl hq he hk r1 a1 b1
  go_enter Tryd.func10, Tryd.ntmps10
  go_wp2_with (first
    | (go_at_call 14; refine Calls.mono (HFI.out _ ?_) ?_; go_grown; rintro e w1 ⟨rfl, hb1⟩; obtain ⟨hc, hfz⟩ := bcell hb1; have hz : w.heap.size < w1.heap.size := (by have := hb1.size; simp at this; omega); have HB1 : Hid (Below w.heap.size w w1) := Lib.hid (bel (by go_grown) hb1); clear hb1)
    | (go_at_call 19; refine Calls.mono (bl_byte w1.heap.size w1.heap.size ⟨#[]⟩ 3 _ (Bld.fresh w1) (by decide) (by decide) (by simp)) ?_; rintro e w2 ⟨rfl, hbl, hk2⟩; rw [nil_app] at hbl; have HBL : Hid (Bld w2 w1.heap.size w1.heap.size ⟨#[3]⟩) := Lib.hid hbl; have HK2 : Hid (Kp w1.heap.size w1.heap.size w1 w2) := Lib.hid ((Kp.of ((Below.refl _ _).alloc (Nat.le_refl _) _) (Nat.le_refl _)).trans hk2); have p0 : w2.cell? ⟨w.heap.size, 0, none⟩ = some (.int .i64 3) := (hk2.1.cell (p := ⟨w.heap.size, 0, none⟩) hz).trans (by go_simp); have p3 : w2.cell? ⟨w.heap.size, 3, none⟩ = some (.slice A1 0 c1) := (hk2.1.cell (p := ⟨w.heap.size, 3, none⟩) hz).trans (by go_simp); have p4 : w2.cell? ⟨w.heap.size, 4, none⟩ = some (.slice A2 l.length c2) := (hk2.1.cell (p := ⟨w.heap.size, 4, none⟩) hz).trans (by go_simp); clear hbl hk2)
    | (go_at_call 22; refine Calls.mono (HPT.out _) ?_; rintro e' wx ⟨rfl, hBx⟩; have HKX : Hid (Kp w1.heap.size w1.heap.size w1 wx) := Lib.hid (HK2.out.put hBx (Nat.le_refl _)); have HBLX := Lib.hid (HBL.out.on hBx); have x3 : wx.cell? ⟨w.heap.size, 3, none⟩ = some (.slice A1 0 c1) := (hBx.cell (p := ⟨w.heap.size, 3, none⟩) (Nat.lt_of_lt_of_le hz HK2.out.size)).trans (by go_simp); have x4 : wx.cell? ⟨w.heap.size, 4, none⟩ = some (.slice A2 l.length c2) := (hBx.cell (p := ⟨w.heap.size, 4, none⟩) (Nat.lt_of_lt_of_le hz HK2.out.size)).trans (by go_simp);  clear hBx)
    | (go_at_call 20; (with_reducible refine Calls.mono (bl_str w1.heap.size w1.heap.size ⟨#[3]⟩ p _ HBLX.out HSZ.out HKX.out.size) ?_); rintro e' wy ⟨rfl, hbl, hKy⟩; have HBL2 := Lib.hid hbl; have HKY : Hid (Kp w1.heap.size w1.heap.size w1 wy) := Lib.hid (HKX.out.trans hKy); have y3 : wy.cell? ⟨w.heap.size, 3, none⟩ = some (.slice A1 0 c1) := (hKy.1.cell (p := ⟨w.heap.size, 3, none⟩) hz).trans (by go_simp); have y4 : wy.cell? ⟨w.heap.size, 4, none⟩ = some (.slice A2 l.length c2) := (hKy.1.cell (p := ⟨w.heap.size, 4, none⟩) hz).trans (by go_simp);  clear hbl hKy)
    | (go_at_call 20; (with_reducible refine Calls.mono (bl_str w1.heap.size w1.heap.size (⟨#[3]⟩ ++ p) q _ HBLJ.out HSQ.out HKJ.out.size) ?_); rintro e' wv ⟨rfl, hbl, hKv⟩; have HBL3 := Lib.hid hbl; have HKV : Hid (Kp w1.heap.size w1.heap.size w1 wv) := Lib.hid (HKJ.out.trans hKv); have v3 : wv.cell? ⟨w.heap.size, 3, none⟩ = some (.slice A1 0 c1) := (hKv.1.cell (p := ⟨w.heap.size, 3, none⟩) hz).trans (by go_simp); have v4 : wv.cell? ⟨w.heap.size, 4, none⟩ = some (.slice A2 l.length c2) := (hKv.1.cell (p := ⟨w.heap.size, 4, none⟩) hz).trans (by go_simp);  clear hbl hKv)
    | (go_at_call 23; refine Calls.mono (HJO.out _ ?_) ?_; exact bel HB1.out HKY.out.1; rintro e' wj ⟨rfl, hBj⟩; have HKJ : Hid (Kp w1.heap.size w1.heap.size w1 wj) := Lib.hid (HKY.out.put hBj (Nat.le_refl _)); have HBLJ := Lib.hid (HBL2.out.on hBj); have j3 : wj.cell? ⟨w.heap.size, 3, none⟩ = some (.slice A1 0 c1) := (hBj.cell (p := ⟨w.heap.size, 3, none⟩) (Nat.lt_of_lt_of_le hz HKY.out.size)).trans (by go_simp); have j4 : wj.cell? ⟨w.heap.size, 4, none⟩ = some (.slice A2 l.length c2) := (hBj.cell (p := ⟨w.heap.size, 4, none⟩) (Nat.lt_of_lt_of_le hz HKY.out.size)).trans (by go_simp);  clear hBj)
    | fail)
  have HBV : Hid (Bld wv w1.heap.size w1.heap.size (wr3 l 0)) := Lib.hid (by rw [← HZ.out]; exact HBL3.out)
  have HZW := Lib.hid hz
  go_loopw [50] (fun iv wr => ∃ (k : Nat) (Wr : World), Wr = wr ∧ iv = .int .i64 k ∧ k ≤ l.length ∧ Hid (Bld Wr w1.heap.size w1.heap.size (wr3 l k)) ∧ Hid (Kp w1.heap.size w1.heap.size w1 Wr)) (fun iv _ => l.length + 1 - (intOf iv).toNat)
  case atStart => exact ⟨0, _, rfl, rfl, Nat.zero_le _, HBV, HKV⟩
  case round =>
    obtain ⟨k, Wr, hWr, rfl, hk, hBk, hKr⟩ := hrel
    subst hWr
    have hsz := wr3_size l k HL.out hl4
    have HBW : Hid (Below w.heap.size w Wr) := Lib.hid (bel HB1.out hKr.out.1)
    have HLE : Hid (w1.heap.size ≤ Wr.heap.size) := Lib.hid hKr.out.size
    have HBLT : Hid (w1.heap.size < Wr.heap.size) := Lib.hid (by
      rcases hBk.out with h | h <;> exact h.lt)
    by_cases hlt : k < l.length
    · obtain ⟨x, hx⟩ : ∃ x, l[k]? = some x := ⟨l[k], List.getElem?_eq_getElem hlt⟩
      obtain ⟨b1, o1, rfl, hb1', q0, q2⟩ := row_obj HR1.out hx
      obtain ⟨x1, x2⟩ := x
      dsimp only at q0 q2
      have s0 := (HBW.out.cell (p := ⟨b1, o1 + k * 2, none⟩) hb1').trans q0
      have s1 := (HBW.out.cell (p := ⟨b1, o1 + k * 2 + 1, none⟩) hb1').trans q2
      have i1 : (k : Int) < (l.length : Int) := by omega
      have i0 : (0 : Int) ≤ (k : Int) := by omega
      have HSS := Lib.hid (wr3_succ l k (x1, x2) hx)
      have hxs := HL.out (x1, x2) (List.mem_of_getElem? hx)
      dsimp only at hxs HSS
      obtain ⟨g, hg'⟩ : ∃ g, g = putT x2 := ⟨_, rfl⟩
      have hgs : g.size ≤ 40011 := by rw [hg']; have := putT_size x2; omega
      have HPX := Lib.hid (fun W => vputt_any x2 W (by omega))
      rw [← hg'] at HPX HSS
      have hxs' : x1.size ≤ 32 := by omega
      have q5 : ¬ 9223372036854775807 < x1.size + g.size := by omega
      have HSQ2 : Hid ((wr3 l k).size + (x1 ++ g).size ≤ 1000000) := Lib.hid (by rw [ByteArray.size_append]; omega)
      clear hx q0 q2 hg' hxs
      go_wp2_with fail
      obtain ⟨W0, hg⟩ : ∃ W0 : World, W0 = Wr.alloc (.cells #[.string x1, .string x2] 40) := ⟨_, rfl⟩
      rw [← hg]
      have HBL0 : Hid (Bld W0 w1.heap.size w1.heap.size (wr3 l k)) := Lib.hid (by rw [hg]; exact hBk.out.on ((Below.refl _ _).alloc (Nat.le_refl _) _))
      have HK0 : Hid (Kp w1.heap.size w1.heap.size Wr W0) := Lib.hid (by rw [hg]; exact Kp.of ((Below.refl _ _).alloc (Nat.le_refl _) _) HLE.out)
      have HH0 : Hid (W0.heap[Wr.heap.size]? = some (.cells #[.string x1, .string x2] 40 (0, 0))) := Lib.hid (by rw [hg]; exact heap_alloc_new Wr _)
      have HLE0 : Hid (w1.heap.size ≤ W0.heap.size) := Lib.hid (Nat.le_trans HLE.out HK0.out.size)
      clear hg
      have HS : Hid (∀ W : World, Kp w1.heap.size w1.heap.size W0 W → (W.cell? ⟨Wr.heap.size, 0, none⟩ = some (.string x1) ∧ W.cell? ⟨Wr.heap.size, 1, none⟩ = some (.string x2) ∧ Hid (Kp w1.heap.size w1.heap.size W0 W))) := Lib.hid (fun W hW => ⟨hW.cell HH0.out (Nat.ne_of_gt HBLT.out) (by decide) 0, hW.cell HH0.out (Nat.ne_of_gt HBLT.out) (by decide) 1, Lib.hid hW⟩)
      have hS0 := HS.out _ (show Kp w1.heap.size w1.heap.size W0 W0.drew from (Kp.refl _ _ W0).put (Below.refl _ _).drew HLE0.out)
      go_region_held3 (fun w' => w'.cell? ⟨Wr.heap.size, 0, none⟩ = some (.string x1) ∧ w'.cell? ⟨Wr.heap.size, 1, none⟩ = some (.string x2) ∧ Hid (Kp w1.heap.size w1.heap.size W0 w'))
        (first
          | exact hS0
          | assumption
          | (go_split_ands; exact HS.out _ (Kp.trans (Hid.out ‹Hid (Kp w1.heap.size w1.heap.size W0 _)›) ‹Kp _ _ _ _›)))
        (first
          | (go_at_call 21; refine Calls.mono (HPX.out _) ?_; rintro e wx ⟨rfl, hBx⟩; have HP : Hid (Below W0.heap.size W0 wx) := Lib.hid (bel (by first | exact (Below.refl _ _).drew | exact below_drewN (Below.refl _ _) _ | exact Below.refl _ _) hBx); have hKx : Kp w1.heap.size w1.heap.size _ wx := Kp.of hBx (Nat.le_trans HLE0.out (Kp.size (Hid.out (by first | assumption | (go_split_ands; assumption))))))
          | (go_at_call 20; refine Calls.mono (bl_str w1.heap.size w1.heap.size (wr3 l k) (x1 ++ g) _ (HBL0.out.on ?_) HSQ2.out ?_) ?_; (first | exact HP.out | exact HP.out.drew | exact below_drewN HP.out _); exact (Nat.le_trans HLE0.out (Kp.size (Hid.out (by first | assumption | (go_split_ands; assumption))))); rintro e wy ⟨rfl, hbl, hKy⟩; have HBLN := Lib.hid hbl))
      go_split_ands
      have HKF : Hid (Kp w1.heap.size w1.heap.size W0 _) := ‹Hid (Kp w1.heap.size w1.heap.size W0 _)›
      go_wp2_with fail
      go_roundw
      case rel => exact ⟨k + 1, _, rfl, by go_num, by omega, Lib.hid (by rw [HSS.out, app_assoc]; exact HBLN.out), Lib.hid ((hKr.out.trans HK0.out).trans HKF.out)⟩
      case measure => simp [intOf]; omega
    · obtain rfl : k = l.length := by omega
      go_wp2_with (go_at_call 24; refine Calls.mono (bl_end w1.heap.size w1.heap.size _ _ (by first | exact hBk.out | exact hBk.out.on (Below.refl _ _).drew | exact hBk.out.on (below_drewN (Below.refl _ _) _)) ?_) ?_; exact HLE.out; rintro e wz ⟨rfl, hBz⟩)
      go_ret
      exact ⟨by rw [← HW.out]; rfl, bel HB1.out (hKr.out.1.trans hBz)⟩

set_option maxRecDepth 100000 in
set_option maxHeartbeats 4000000 in
theorem mwr0 (u : Value) (m : MsgL) (w : World) (hm : MsgV w w.heap.size u m) (hn : m.name.size ≤ maxLen) (hf : fitL m = false) :
    Calls Tryd.prog 10 #[u] w fun e w' => e = .returned (.string (writeL m)) ∧ Below w.heap.size w w' := by
  obtain ⟨ks, os, rfl, hk, ho⟩ := hm
  have HFI := Lib.hid (fun W (hW : Below w.heap.size w W) => mfit_any _ m W false hf ⟨ks, os, rfl, hk.on hW, ho.on hW⟩ hn)
  have HW : Hid (writeL m = ⟨#[]⟩) := Lib.hid (by unfold writeL; rw [if_pos hf])
  obtain ⟨A1, c1, rfl, a1, b1, r1⟩ := hk
  obtain ⟨A2, c2, rfl, a2, b2, r2⟩ := ho
  unfold msgA
  unfold msgA at HFI
  clear r1 r2 a1 b1 a2 b2 hf
  go_enter Tryd.func10, Tryd.ntmps10
  go_wp2_with (go_at_call 14; refine Calls.mono (HFI.out _ ?_) ?_; go_grown; rintro e w1 ⟨rfl, hb1⟩; obtain ⟨hc, hfz⟩ := bcell hb1; have hz : w.heap.size < w1.heap.size := (by have := hb1.size; simp at this; omega); have HB1 : Hid (Below w.heap.size w w1) := Lib.hid (bel (by go_grown) hb1); clear hb1)
  go_ret
  exact ⟨by rw [HW.out]; rfl, HB1.out⟩

theorem nameB_size {n : ByteArray} (h : nameB n = true) : n.size ≤ 31 := by
  unfold nameB at h
  rw [Bool.and_eq_true, Bool.and_eq_true] at h
  exact of_decide_eq_true h.2.1
/-- The program's Write. -/
theorem mwrite_any (u : Value) (m : MsgL) (w : World) (hm : MsgV w w.heap.size u m) (hn : m.name.size ≤ maxLen) :
    Calls Tryd.prog 10 #[u] w fun e w' => e = .returned (.string (writeL m)) ∧ Below w.heap.size w w' := by
  cases hf : fitL m with
  | false => exact mwr0 u m w hm hn hf
  | true =>
    have hm' := hm
    obtain ⟨ks, os, rfl, hk, ho⟩ := hm
    obtain ⟨A1, c1, rfl, a1, b1, r1⟩ := hk
    obtain ⟨A2, c2, rfl, a2, b2, r2⟩ := ho
    rcases fit_cases m hf with ⟨n, r, rfl, h1, h2⟩ | ⟨l, rfl, h1, h2, h3⟩ | ⟨l, rfl, h1, h2, h3⟩ | ⟨e, rfl, h1⟩
    · exact mwr1 n r A1 A2 c1 c2 w hm' hf (nameB_size h1) h2
    · exact mwr2 l A1 A2 c1 c2 w hm' hf h1 h3
    · exact mwr3 l A1 A2 c1 c2 w hm' hf h1 h3
    · exact mwr4 e A1 A2 c1 c2 w hm' hf h1

end Go.Proofs.YthlajcohbpjgkaaDoor
