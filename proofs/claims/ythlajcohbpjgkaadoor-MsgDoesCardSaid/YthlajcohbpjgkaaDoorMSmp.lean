/-
  The program's Same of messages. (Printed by genrsp.py.)
-/
import Derived.Test.YthlajcohbpjgkaaDoorMEqu
namespace Go.Proofs.YthlajcohbpjgkaaDoor
open Go.RowKit Go.Shelf Go.Proofs.Mem
set_option linter.unusedVariables false

set_option maxRecDepth 100000 in
set_option maxHeartbeats 2000000 in
theorem msm_any (u v : Value) (m n : MsgL) (w : World) (hl : MsgV w w.heap.size u m) (hm : MsgV w w.heap.size v n) :
    Calls Tryd.prog 15 #[u, v] w fun e w' => e = .returned (.bool (decide (m = n))) ∧ Below w.heap.size w w' := by
  obtain ⟨ku, ou, rfl, hk1, ho1⟩ := hl
  obtain ⟨kv, ov, rfl, hk2, ho2⟩ := hm
  have HO := Lib.hid (fun W (hb : Below w.heap.size w W) => eqo_any ou ov m.objs n.objs W (ho1.on hb) (ho2.on hb))
  have HK := Lib.hid (fun W (hb : Below w.heap.size w W) => eqs_any ku kv m.keys n.keys W (hk1.on hb) (hk2.on hb))
  obtain ⟨A1, c1, rfl, a1, b1, r1⟩ := hk1
  obtain ⟨A2, c2, rfl, a2, b2, r2⟩ := hk2
  obtain ⟨A3, c3, rfl, a3, b3, r3⟩ := ho1
  obtain ⟨A4, c4, rfl, a4, b4, r4⟩ := ho2
  clear r1 r2 r3 r4 a1 a2 a3 a4 b1 b2 b3 b4
  obtain ⟨r, hr⟩ : ∃ r, r = decide (m = n) := ⟨_, rfl⟩
  rw [← hr]
  have HRR := Lib.hid hr
  clear hr
  unfold msgA
  have HBX : Hid (∀ o1 o2, Below w.heap.size w ((w.alloc o1).alloc o2)) := Lib.hid (fun o1 o2 => ((Below.refl _ _).alloc (Nat.le_refl _) _).alloc (by simp) _)

  by_cases hkind : m.kind = n.kind
  case neg =>
    have dk : (m.kind == n.kind) = false := beq_eq_false_iff_ne.2 hkind
    have HF : Hid (r = false) := Lib.hid (by rw [HRR.out]; exact decide_eq_false (fun e => hkind (by rw [e])))
    clear hkind
    go_enter Tryd.func15, Tryd.ntmps15
    go_wp2_with fail
    go_ret
    exact ⟨by rw [HF.out]; rfl, by go_grown⟩
  have dk : (m.kind == n.kind) = true := beq_iff_eq.2 hkind
  have Gkind := Lib.hid hkind
  clear hkind

  by_cases hname : m.name = n.name
  case neg =>
    have dn : (m.name.toList == n.name.toList) = false := by rw [str_beq, decide_eq_false hname]
    have HF : Hid (r = false) := Lib.hid (by rw [HRR.out]; exact decide_eq_false (fun e => hname (by rw [e])))
    clear hname
    go_enter Tryd.func15, Tryd.ntmps15
    go_wp2_with fail
    go_ret
    exact ⟨by rw [HF.out]; rfl, by go_grown⟩
  have dn : (m.name.toList == n.name.toList) = true := by rw [str_beq, decide_eq_true hname]
  have Gname := Lib.hid hname
  clear hname

  by_cases hroot : m.root = n.root
  case neg =>
    have dr : (m.root.toList == n.root.toList) = false := by rw [str_beq, decide_eq_false hroot]
    have HF : Hid (r = false) := Lib.hid (by rw [HRR.out]; exact decide_eq_false (fun e => hroot (by rw [e])))
    clear hroot
    go_enter Tryd.func15, Tryd.ntmps15
    go_wp2_with fail
    go_ret
    exact ⟨by rw [HF.out]; rfl, by go_grown⟩
  have dr : (m.root.toList == n.root.toList) = true := by rw [str_beq, decide_eq_true hroot]
  have Groot := Lib.hid hroot
  clear hroot

  by_cases herr : m.err = n.err
  case neg =>
    have de : (m.err == n.err) = false := beq_eq_false_iff_ne.2 herr
    have HF : Hid (r = false) := Lib.hid (by rw [HRR.out]; exact decide_eq_false (fun e => herr (by rw [e])))
    clear herr
    go_enter Tryd.func15, Tryd.ntmps15
    go_wp2_with fail
    go_ret
    exact ⟨by rw [HF.out]; rfl, by go_grown⟩
  have de : (m.err == n.err) = true := beq_iff_eq.2 herr
  have Gerr := Lib.hid herr
  clear herr

  by_cases hkeys : m.keys = n.keys
  case neg =>
    have dke : decide (m.keys = n.keys) = false := decide_eq_false hkeys
    have HF : Hid (r = false) := Lib.hid (by rw [HRR.out]; exact decide_eq_false (fun e => hkeys (by rw [e])))
    clear hkeys
    go_enter Tryd.func15, Tryd.ntmps15
    go_wp2_with (go_at_call 37; refine Calls.mono (HK.out _ (HBX.out _ _)) ?_; rw [dke]; rintro e w1 ⟨rfl, hb1⟩; have HB1 := Lib.hid (bel (HBX.out _ _) hb1); have p4 := (hb1.cell (p := ⟨w.heap.size, 4, none⟩) (by simp only [World.size_alloc]; omega)).trans (by go_simp : _ = some (Value.slice A3 m.objs.length c3)); have s4 := (hb1.cell (p := ⟨w.heap.size + 1, 4, none⟩) (by simp only [World.size_alloc]; omega)).trans (by go_simp : _ = some (Value.slice A4 n.objs.length c4)); clear hb1)
    go_ret
    exact ⟨by rw [HF.out]; rfl, HB1.out⟩
  have dke : decide (m.keys = n.keys) = true := decide_eq_true hkeys
  have Gkeys := Lib.hid hkeys
  clear hkeys

  by_cases hobjs : m.objs = n.objs
  case neg =>
    have dob : decide (m.objs = n.objs) = false := decide_eq_false hobjs
    have HF : Hid (r = false) := Lib.hid (by rw [HRR.out]; exact decide_eq_false (fun e => hobjs (by rw [e])))
    clear hobjs
    go_enter Tryd.func15, Tryd.ntmps15
    go_wp2_with (first
      | (go_at_call 37; refine Calls.mono (HK.out _ (HBX.out _ _)) ?_; rw [dke]; rintro e w1 ⟨rfl, hb1⟩; have HB1 := Lib.hid (bel (HBX.out _ _) hb1); have p4 := (hb1.cell (p := ⟨w.heap.size, 4, none⟩) (by simp only [World.size_alloc]; omega)).trans (by go_simp : _ = some (Value.slice A3 m.objs.length c3)); have s4 := (hb1.cell (p := ⟨w.heap.size + 1, 4, none⟩) (by simp only [World.size_alloc]; omega)).trans (by go_simp : _ = some (Value.slice A4 n.objs.length c4)); clear hb1)
      | (go_at_call 38; refine Calls.mono (HO.out _ HB1.out) ?_; rw [dob]; rintro e w2 ⟨rfl, hb2⟩; have HB2 := Lib.hid (bel HB1.out hb2); clear hb2))
    go_ret
    exact ⟨by rw [HF.out]; rfl, HB2.out⟩
  have dob : decide (m.objs = n.objs) = true := decide_eq_true hobjs
  have Gobjs := Lib.hid hobjs
  clear hobjs

  have HQ := Lib.hid (msg_ext Gkind.out Gname.out Groot.out Gkeys.out Gobjs.out Gerr.out)
  go_enter Tryd.func15, Tryd.ntmps15
  go_wp2_with (first
      | (go_at_call 37; refine Calls.mono (HK.out _ (HBX.out _ _)) ?_; rw [dke]; rintro e w1 ⟨rfl, hb1⟩; have HB1 := Lib.hid (bel (HBX.out _ _) hb1); have p4 := (hb1.cell (p := ⟨w.heap.size, 4, none⟩) (by simp only [World.size_alloc]; omega)).trans (by go_simp : _ = some (Value.slice A3 m.objs.length c3)); have s4 := (hb1.cell (p := ⟨w.heap.size + 1, 4, none⟩) (by simp only [World.size_alloc]; omega)).trans (by go_simp : _ = some (Value.slice A4 n.objs.length c4)); clear hb1)
      | (go_at_call 38; refine Calls.mono (HO.out _ HB1.out) ?_; rw [dob]; rintro e w2 ⟨rfl, hb2⟩; have HB2 := Lib.hid (bel HB1.out hb2); clear hb2))
  go_ret
  exact ⟨by rw [HRR.out, decide_eq_true HQ.out]; rfl, HB2.out⟩

end Go.Proofs.YthlajcohbpjgkaaDoor
