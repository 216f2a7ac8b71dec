/-
  A message in memory; the document's Same of messages. (Printed by genrsm.py.)
-/
import Derived.Test.YthlajcohbpjgkaaDoorMRSo
namespace Go.Proofs.YthlajcohbpjgkaaDoor
open Go.RowKit Go.Shelf Go.Proofs.Mem
set_option linter.unusedVariables false

def msgA (m : MsgL) (ks os : Value) : Value := .agg #[.int .i64 m.kind, .string m.name, .string m.root, ks, os, .int .i64 m.err]
/-- A message in memory. -/
def MsgV (w : World) (B : Nat) (v : Value) (m : MsgL) : Prop := ∃ ks os, v = msgA m ks os ∧ Strs w B ks m.keys ∧ Objs w B os m.objs
theorem MsgV.below {w w' : World} {B : Nat} {v : Value} {m : MsgL} (h : MsgV w B v m) (hb : Below B w w') : MsgV w' B v m := by
  obtain ⟨ks, os, e, h1, h2⟩ := h
  exact ⟨ks, os, e, h1.below hb, h2.below hb⟩
theorem MsgV.more {w : World} {B B' : Nat} {v : Value} {m : MsgL} (h : MsgV w B v m) (hB : B ≤ B') : MsgV w B' v m := by
  obtain ⟨ks, os, e, h1, h2⟩ := h
  exact ⟨ks, os, e, h1.more hB, h2.more hB⟩
theorem MsgV.on {w w' : World} {v : Value} {m : MsgL} (h : MsgV w w.heap.size v m) (hb : Below w.heap.size w w') : MsgV w' w'.heap.size v m := (h.below hb).more hb.size
/-- The cells of a string in a row. -/
theorem row_key {w : World} {B : Nat} {A : Option Addr} {l : List ByteArray} (h : Row w B A (l.map .string)) {i : Nat} {x : ByteArray} (hx : l[i]? = some x) :
    ∃ b o, A = some ⟨b, o, none⟩ ∧ b < B ∧ w.cell? ⟨b, o + i, none⟩ = some (.string x) := by
  have hi : i < l.length := by
    rcases Nat.lt_or_ge i l.length with h | h
    · exact h
    · rw [List.getElem?_eq_none h] at hx; cases hx
  obtain ⟨b, o, e, hb, hc⟩ := h.at_ (by rw [List.length_map]; omega)
  exact ⟨b, o, e, hb, hc i _ (by rw [List.getElem?_map, hx]; rfl)⟩

theorem msg_ext {m n : MsgL} (h1 : m.kind = n.kind) (h2 : m.name = n.name) (h3 : m.root = n.root) (h4 : m.keys = n.keys) (h5 : m.objs = n.objs) (h6 : m.err = n.err) : m = n := by
  obtain ⟨a1, a2, a3, a4, a5, a6⟩ := m
  obtain ⟨b1, b2, b3, b4, b5, b6⟩ := n
  simp only at h1 h2 h3 h4 h5 h6
  subst h1 h2 h3 h4 h5 h6
  rfl

set_option maxHeartbeats 2000000 in
theorem rsm_any (u v : Value) (m n : MsgL) (w : World) (hl : MsgV w w.heap.size u m) (hm : MsgV w w.heap.size v n) :
    Calls Tryd.prog 12 #[u, v] w fun e w' => e = .returned (.bool (decide (m = n))) ∧ Below w.heap.size w w' := by
  obtain ⟨ku, ou, rfl, hk1, ho1⟩ := hl
  obtain ⟨kv, ov, rfl, hk2, ho2⟩ := hm
  have HO := Lib.hid (fun W (hb : Below w.heap.size w W) => rso_any ou ov m.objs n.objs W (ho1.on hb) (ho2.on hb))
  clear ho1 ho2
  obtain ⟨A1, c1, rfl, a1, b1, r1⟩ := hk1
  obtain ⟨A2, c2, rfl, a2, b2, r2⟩ := hk2
  have hz1 : m.keys.length ≤ 9223372036854775807 := by unfold maxLen at b1; omega
  have hz2 : n.keys.length ≤ 9223372036854775807 := by unfold maxLen at b2; omega
  have HR1 := Lib.hid r1
  have HR2 := Lib.hid r2
  clear r1 r2 a1 b1 a2 b2
  obtain ⟨r, hr⟩ : ∃ r, r = decide (m = n) := ⟨_, rfl⟩
  rw [← hr]
  have HRR := Lib.hid hr
  clear hr
  unfold msgA
  have HBX : Hid (∀ o1 o2, Below w.heap.size w ((w.alloc o1).alloc o2)) := Lib.hid (fun o1 o2 => ((Below.refl _ _).alloc (Nat.le_refl _) _).alloc (by simp) _)

  by_cases hkind : m.kind = n.kind
  case neg =>
    have dk : (m.kind == n.kind) = false := beq_eq_false_iff_ne.2 hkind
    have dk2 : (m.kind != n.kind) = true := by rw [bne, dk]; rfl
    have HF : Hid (r = false) := Lib.hid (by rw [HRR.out]; exact decide_eq_false (fun e => hkind (by rw [e])))
    clear hkind
    go_enter Tryd.func12, Tryd.ntmps12
    go_wp2_with fail
    go_ret
    exact ⟨by rw [HF.out]; rfl, by go_grown⟩
  have dk : (m.kind == n.kind) = true := beq_iff_eq.2 hkind
  have dk2 : (m.kind != n.kind) = false := by rw [bne, dk]; rfl

  by_cases hname : m.name = n.name
  case neg =>
    have dn : (m.name.toList == n.name.toList) = false := by rw [str_beq, decide_eq_false hname]
    have HF : Hid (r = false) := Lib.hid (by rw [HRR.out]; exact decide_eq_false (fun e => hname (by rw [e])))
    clear hname
    go_enter Tryd.func12, Tryd.ntmps12
    go_wp2_with fail
    go_ret
    exact ⟨by rw [HF.out]; rfl, by go_grown⟩
  have dn : (m.name.toList == n.name.toList) = true := by rw [str_beq, decide_eq_true hname]

  by_cases hroot : m.root = n.root
  case neg =>
    have dr : (m.root.toList == n.root.toList) = false := by rw [str_beq, decide_eq_false hroot]
    have HF : Hid (r = false) := Lib.hid (by rw [HRR.out]; exact decide_eq_false (fun e => hroot (by rw [e])))
    clear hroot
    go_enter Tryd.func12, Tryd.ntmps12
    go_wp2_with fail
    go_ret
    exact ⟨by rw [HF.out]; rfl, by go_grown⟩
  have dr : (m.root.toList == n.root.toList) = true := by rw [str_beq, decide_eq_true hroot]

  by_cases herr : m.err = n.err
  case neg =>
    have de : (m.err == n.err) = false := beq_eq_false_iff_ne.2 herr
    have de2 : (m.err != n.err) = true := by rw [bne, de]; rfl
    have HF : Hid (r = false) := Lib.hid (by rw [HRR.out]; exact decide_eq_false (fun e => herr (by rw [e])))
    clear herr
    go_enter Tryd.func12, Tryd.ntmps12
    go_wp2_with fail
    go_ret
    exact ⟨by rw [HF.out]; rfl, by go_grown⟩
  have de : (m.err == n.err) = true := beq_iff_eq.2 herr
  have de2 : (m.err != n.err) = false := by rw [bne, de]; rfl

  by_cases hlen : m.keys.length = n.keys.length
  case neg =>
    have dl : ((m.keys.length : Int) == (n.keys.length : Int)) = false := by rw [beq_eq_false_iff_ne]; omega
    have dl2 : ((m.keys.length : Int) != (n.keys.length : Int)) = true := by rw [bne, dl]; rfl
    have HF : Hid (r = false) := Lib.hid (by rw [HRR.out]; exact decide_eq_false (fun e => hlen (by rw [e])))
    clear hlen
    go_enter Tryd.func12, Tryd.ntmps12
    go_wp2_with fail
    go_ret
    exact ⟨by rw [HF.out]; rfl, by go_grown⟩
  have dl : ((m.keys.length : Int) == (n.keys.length : Int)) = true := by rw [beq_iff_eq, hlen]
  have dl2 : ((m.keys.length : Int) != (n.keys.length : Int)) = false := by rw [bne, dl]; rfl

  by_cases hobjs : m.objs = n.objs
  case neg =>
    have dob : decide (m.objs = n.objs) = false := decide_eq_false hobjs
    have HF : Hid (r = false) := Lib.hid (by rw [HRR.out]; exact decide_eq_false (fun e => hobjs (by rw [e])))
    clear hobjs
    go_enter Tryd.func12, Tryd.ntmps12
    go_wp2_with (go_at_call 27; refine Calls.mono (HO.out _ (HBX.out _ _)) ?_; rintro e w1 ⟨rfl, hb1⟩; have HB1 := Lib.hid (bel (HBX.out _ _) hb1); clear hb1)
    go_ret
    exact ⟨by rw [HF.out]; rfl, HB1.out⟩
  have dob : decide (m.objs = n.objs) = true := decide_eq_true hobjs

  have HK := Lib.hid (And.intro hkind (And.intro hname (And.intro hroot (And.intro herr hobjs))))
  obtain ⟨q, hq⟩ : ∃ q, q = m.keys.length := ⟨_, rfl⟩
  have hq2 : n.keys.length = q := by omega
  have hqz : q ≤ 9223372036854775807 := by omega
  have HQ1 := Lib.hid hq
  have HQ2 := Lib.hid hq2
  rw [hq2, ← hq]
  rw [hq2, ← hq] at dl dl2
  clear hkind hname hroot herr hobjs hlen hq hq2
  go_enter Tryd.func12, Tryd.ntmps12
  go_wp2_with (go_at_call 27; refine Calls.mono (HO.out _ (HBX.out _ _)) ?_; rintro e w1 ⟨rfl, hb1⟩; have HB1 := Lib.hid (bel (HBX.out _ _) hb1); have HSZ : Hid (w.heap.size + 1 < w1.heap.size) := Lib.hid (by have h := hb1.size; simp at h; omega); have P3 := Lib.hid ((hb1.cell (p := ⟨w.heap.size, 3, none⟩) (by simp only [World.size_alloc]; omega)).trans (by go_simp : _ = some (Value.slice A1 q c1))); have S3 := Lib.hid ((hb1.cell (p := ⟨w.heap.size + 1, 3, none⟩) (by simp only [World.size_alloc]; omega)).trans (by go_simp : _ = some (Value.slice A2 q c2))); clear hb1)
  go_loopw [5] (fun iv wr => ∃ k : Nat, iv = .int .i64 k ∧ k ≤ q ∧ Hid (m.keys.take k = n.keys.take k) ∧ Hid (Below w1.heap.size w1 wr)) (fun iv _ => q + 1 - (intOf iv).toNat)
  case atStart => exact ⟨0, rfl, Nat.zero_le _, Lib.hid rfl, Lib.hid (Below.refl _ _)⟩
  case round =>
    obtain ⟨k, rfl, hk, hE, hB⟩ := hrel
    have HLT : w.heap.size + 1 < w1.heap.size := HSZ.out
    have c3 := (hB.out.cell (p := ⟨w.heap.size, 3, none⟩) (by dsimp only; omega)).trans P3.out
    have d3 := (hB.out.cell (p := ⟨w.heap.size + 1, 3, none⟩) (by dsimp only; omega)).trans S3.out
    by_cases hlt : k < q
    · obtain ⟨x, hx⟩ : ∃ x, m.keys[k]? = some x := ⟨m.keys[k]'(by have := HQ1.out; omega), List.getElem?_eq_getElem (by have := HQ1.out; omega)⟩
      obtain ⟨y, hy⟩ : ∃ y, n.keys[k]? = some y := ⟨n.keys[k]'(by have := HQ2.out; omega), List.getElem?_eq_getElem (by have := HQ2.out; omega)⟩
      obtain ⟨b1, o1, rfl, hb1, q0⟩ := row_key HR1.out hx
      obtain ⟨b2, o2, rfl, hb2, r0⟩ := row_key HR2.out hy
      have HB01 := HB1.out
      have p0 := (hB.out.cell (p := ⟨b1, o1 + k, none⟩) (by dsimp only; omega)).trans ((HB01.cell (p := ⟨b1, o1 + k, none⟩) hb1).trans q0)
      have s0 := (hB.out.cell (p := ⟨b2, o2 + k, none⟩) (by dsimp only; omega)).trans ((HB01.cell (p := ⟨b2, o2 + k, none⟩) hb2).trans r0)
      have i1 : (k : Int) < (q : Int) := by omega
      have i0 : (0 : Int) ≤ (k : Int) := by omega
      have HX := Lib.hid hx
      have HY := Lib.hid hy
      clear q0 r0 hx hy HB01
      by_cases ek : x = y
      case neg =>
        have d0 : (x.toList == y.toList) = false := by rw [str_beq, decide_eq_false ek]
        have HNE := Lib.hid ek
        clear ek
        go_wp2_with fail
        go_quiet (fail)
        go_wp2_with fail
        go_ret
        refine ⟨?_, bel HB1.out (bel hB.out (by go_grown; all_goals (refine below_drewN ?_ _; go_grown)))⟩
        rw [HRR.out, decide_eq_false (fun e => HNE.out (by
          have h1 := HX.out
          rw [e, HY.out] at h1
          exact (Option.some.inj h1).symm))]
        rfl
      subst ek
      have d0 : (x.toList == x.toList) = true := by rw [str_beq, decide_eq_true rfl]
      go_wp2_with fail
      go_quiet (fail)
      go_wp2_with fail
      go_roundw
      case rel => exact ⟨k + 1, by go_num, by omega, Lib.hid (take_same hE.out HX.out HY.out), Lib.hid (bel hB.out (by go_grown; all_goals (refine below_drewN ?_ _; go_grown)))⟩
      case measure => simp [intOf]; omega
    · obtain rfl : k = q := by omega
      go_wp2_with fail
      go_ret
      refine ⟨?_, bel HB1.out hB.out⟩
      have h1 := hE.out
      rw [List.take_of_length_le (by have := HQ1.out; omega), List.take_of_length_le (by have := HQ2.out; omega)] at h1
      obtain ⟨k1, k2, k3, k4, k5⟩ := HK.out
      rw [HRR.out, decide_eq_true (msg_ext k1 k2 k3 h1 k5 k4)]
      rfl

end Go.Proofs.YthlajcohbpjgkaaDoor
