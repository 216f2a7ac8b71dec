/-
  The walk of NetPlain: each side.
-/
import Derived.Test.YtgllojpeggmleaaPlainM
namespace Go.Proofs.Ytgllojpeggmleaa
open Go.RowKit Go.Proofs.Mem
set_option linter.unusedVariables false

/-- The sky's variable: V to side 0, nothing else. -/
def Box0 (w : World) (b : Nat) (V : Value) : Prop := (w.cell? ⟨b, 0, none⟩ = some (V) ∧ w.cell? ⟨b, 1, none⟩ = some (.slice none 0 0) ∧ w.cell? ⟨b, 2, none⟩ = some (.string ⟨#[]⟩) ∧ w.cell? ⟨b, 3, none⟩ = some (.int .i64 0) ∧ w.cell? ⟨b, 4, none⟩ = some (.int .i64 0) ∧ w.cell? ⟨b, 5, none⟩ = some (.int .i64 0) ∧ w.cell? ⟨b, 6, none⟩ = some (.int .i64 0) ∧ w.cell? ⟨b, 7, none⟩ = some (.int .i64 0) ∧ w.cell? ⟨b, 8, none⟩ = some (.int .i64 0) ∧ w.cell? ⟨b, 9, none⟩ = some (.int .i64 0) ∧ w.cell? ⟨b, 10, none⟩ = some (.int .i64 0) ∧ w.cell? ⟨b, 11, none⟩ = some (.int .i64 3) ∧ ∀ o, w.frozen? ⟨b, o, none⟩ = false)

theorem box0_below {w w' : World} {b : Nat} {V : Value} (h : Box0 w b V) (hb : Below w.heap.size w w') (hlt : b < w.heap.size) : Box0 w' b V := by
  obtain ⟨k0, k1, k2, k3, k4, k5, k6, k7, k8, k9, k10, k11, f⟩ := h
  exact ⟨(hb.cell (p := ⟨b, 0, none⟩) hlt).trans k0, (hb.cell (p := ⟨b, 1, none⟩) hlt).trans k1, (hb.cell (p := ⟨b, 2, none⟩) hlt).trans k2, (hb.cell (p := ⟨b, 3, none⟩) hlt).trans k3, (hb.cell (p := ⟨b, 4, none⟩) hlt).trans k4, (hb.cell (p := ⟨b, 5, none⟩) hlt).trans k5, (hb.cell (p := ⟨b, 6, none⟩) hlt).trans k6, (hb.cell (p := ⟨b, 7, none⟩) hlt).trans k7, (hb.cell (p := ⟨b, 8, none⟩) hlt).trans k8, (hb.cell (p := ⟨b, 9, none⟩) hlt).trans k9, (hb.cell (p := ⟨b, 10, none⟩) hlt).trans k10, (hb.cell (p := ⟨b, 11, none⟩) hlt).trans k11, fun o => (hb.frozen (p := ⟨b, o, none⟩) hlt).trans (f o)⟩

theorem box0_put {w : World} {b : Nat} {V V0 : Value} (h : Box0 w b V0) : Box0 ((((((((((((w.setCell ⟨b, 0, none⟩ (V)).setCell ⟨b, 1, none⟩ (.slice none 0 0)).setCell ⟨b, 2, none⟩ (.string ⟨#[]⟩)).setCell ⟨b, 3, none⟩ (.int .i64 0)).setCell ⟨b, 4, none⟩ (.int .i64 0)).setCell ⟨b, 5, none⟩ (.int .i64 0)).setCell ⟨b, 6, none⟩ (.int .i64 0)).setCell ⟨b, 7, none⟩ (.int .i64 0)).setCell ⟨b, 8, none⟩ (.int .i64 0)).setCell ⟨b, 9, none⟩ (.int .i64 0)).setCell ⟨b, 10, none⟩ (.int .i64 0)).setCell ⟨b, 11, none⟩ (.int .i64 3)) b V := by
  obtain ⟨k0, k1, k2, k3, k4, k5, k6, k7, k8, k9, k10, k11, f⟩ := h
  exact ⟨by go_simp, by go_simp, by go_simp, by go_simp, by go_simp, by go_simp, by go_simp, by go_simp, by go_simp, by go_simp, by go_simp, by go_simp, fun o => by go_simp⟩

set_option maxHeartbeats 4000000 in
theorem plain_walk0 (A : Option Addr) (n c : Nat) (ls : List ByteArray) (to : Int) (w : World) (hn : n = ls.length) (hR : Row w w.heap.size A (ls.map .string)) (ht0 : 0 ≤ to) (ht : to ≤ 255) (hto : to % 2 = 0) (hnm : n ≤ 9223372036854775807) :
    Calls Try.prog 4 #[.slice A n c, .int .u8 to] w fun e w' => e = .returned (.bool true) ∧ Below w.heap.size w w' := by
  by_cases h60 : 60 < n
  · clear hto
    go_enter Try.func4, Try.ntmps4
    go_wp2_with (go_at_call 9; refine (awake_any _).mono ?_; rintro e w' ⟨rfl, hb1⟩)
    go_ret
    exact ⟨rfl, hb1⟩
  have HN := Lib.hid hn
  have HR := Lib.hid hR
  clear hn hR
  go_enter Try.func4, Try.ntmps4
  go_wp2_with fail
  go_loopw [23] (fun v wr => ∃ (k : Nat) (V : Value), k ≤ n ∧ v = .int .i64 k ∧ Hid (Box0 wr w.heap.size V) ∧ Hid (Strs wr wr.heap.size V (ls.take k)) ∧ Hid (V.ownBlock ≠ some w.heap.size) ∧ Hid (Below w.heap.size w wr) ∧ w.heap.size < wr.heap.size) (fun v _ => n - (intOf v).toNat)
  case atStart =>
    refine ⟨0, .slice none 0 0, Nat.zero_le _, rfl, ?_, Lib.hid Strs.none_, Lib.hid (by simp [Value.ownBlock]), Lib.hid (by go_grown), by simp⟩
    exact Lib.hid ⟨by go_simp, by go_simp, by go_simp, by go_simp, by go_simp, by go_simp, by go_simp, by go_simp, by go_simp, by go_simp, by go_simp, by go_simp, fun o => by go_simp⟩
  case round =>
    obtain ⟨k, V, hk, rfl, hBox, hV, hne, hBel, hlt⟩ := hrel
    by_cases hkn : k < n
    · obtain ⟨b, off, rfl, hb, hcell⟩ := HR.out.at_ (by have := HN.out; simp; omega)
      have hkl : k < ls.length := by have := HN.out; omega
      obtain ⟨x, hxe⟩ : ∃ x, x = ls[k] := ⟨_, rfl⟩
      have hc : wr.cell? ⟨b, off + k, none⟩ = some (.string x) := (hBel.out.cell (p := ⟨b, off + k, none⟩) hb).trans (hcell k (.string x) (by simp [hkl, hxe]))
      have HX := Lib.hid hxe
      clear hcell hxe
      by_cases hs : 100 < x.size
      · clear hto
        go_wp2_with (go_at_call 9; refine (awake_any _).mono ?_; rintro e w' ⟨rfl, hb1⟩)
        go_ret
        exact ⟨rfl, hBel.out.trans (hb1.mono hBel.out.size)⟩
      · have hV' := hV.out
        obtain ⟨An, cn, hVe, hcn1, hcn2, _⟩ := hV'
        have hle : (ls.take k).length = k := by rw [List.length_take]; omega
        rw [hle] at hVe hcn1
        clear hle
        subst hVe
        have hbx := hBox.out
        obtain ⟨k0, k1, k2, k3, k4, k5, k6, k7, k8, k9, k10, k11, f0⟩ := hbx
        have hmod : (x.size : Int) % 4 = ((x.size % 4 : Nat) : Int) := by omega
        have HM := Lib.hid hmod
        clear hmod
        go_wp2_with fail
        rw [HM.out]
        refine Calls.mono (plain_0 (x.size % 4) (by omega) (.slice An k cn) (.slice none 0 0) (ls.take k) x wr (by omega) hV.out ⟨_, _, _, rfl⟩ (by rw [List.length_take]; omega)) ?_
        rintro e w1 ⟨V1, rfl, hV1, hown1, hb1⟩
        have hV1' := Lib.hid hV1
        obtain ⟨A1, c1, rfl, _, _, _⟩ := hV1
        have hl1 : (ls.take k ++ [x]).length = k + 1 := by rw [List.length_append, List.length_take]; simp; omega
        rw [hl1] at hV1' hown1
        rw [hl1]
        have HB1 := Lib.hid (box0_below hBox.out hb1 hlt)
        have hne1 : Hid ((Value.slice A1 (k + 1) c1).ownBlock ≠ some w.heap.size) := Lib.hid (fun e => hne.out (hown1 _ hlt e))
        have hlt1 : w.heap.size < w1.heap.size := by have := hb1.size; omega
        have hBel1 := Lib.hid (hBel.out.trans (hb1.mono hBel.out.size))
        clear hown1 hb1 hl1 k0 k1 k2 k3 k4 k5 k6 k7 k8 k9 k10 k11 f0 hc
        obtain ⟨k0, k1, k2, k3, k4, k5, k6, k7, k8, k9, k10, k11, f0⟩ := HB1.out
        unfold skyP
        go_wp2_with fail
        go_roundw
        case rel =>
          have hne' := hne1.out
          refine ⟨k + 1, .slice A1 (k + 1) c1, by omega, by go_num, Lib.hid (box0_put HB1.out), Lib.hid ?_, hne1, Lib.hid ?_, by simp only [World.size_setCell]; omega⟩
          · simp only [World.size_setCell]
            rw [List.take_succ_eq_append_getElem hkl, ← HX.out]
            iterate 12 refine Strs.set_ ?_ hne' _
            exact hV1'.out
          · have hbb := hBel1.out
            iterate 12 refine Below.setCell ?_ (by exact Nat.le_refl _) _
            exact hbb
        case measure => simp [intOf]; omega
    · obtain rfl : k = n := by omega
      have hall : ls.take k = ls := by have := HN.out; rw [this]; exact List.take_length
      have hV0 := hV.out
      rw [hall] at hV0
      have hV1 := Lib.hid hV0
      clear hall hV0 hV
      go_wp2_with fail
      go_loopw [43] (fun v wr => ∃ (j : Nat) (V : Value), j ≤ k ∧ v = .int .i64 j ∧ Hid (Box0 wr w.heap.size V) ∧ Hid (Strs wr wr.heap.size V (ls.drop j)) ∧ Hid (V.ownBlock ≠ some w.heap.size) ∧ Hid (Below w.heap.size w wr) ∧ w.heap.size < wr.heap.size) (fun v _ => k - (intOf v).toNat)
      case atStart => exact ⟨0, V, Nat.zero_le _, rfl, hBox, hV1, hne, hBel, hlt⟩
      case round =>
        clear hBox hne hBel hlt hV1
        obtain ⟨j, V, hj, rfl, hBox, hV, hne, hBel, hlt⟩ := hrel
        by_cases hjn : j < k
        · obtain ⟨b, off, rfl, hb, hcell⟩ := HR.out.at_ (by have := HN.out; simp; omega)
          have hjl : j < ls.length := by have := HN.out; omega
          obtain ⟨x, hxe⟩ : ∃ x, x = ls[j] := ⟨_, rfl⟩
          have hc : wr.cell? ⟨b, off + j, none⟩ = some (.string x) := (hBel.out.cell (p := ⟨b, off + j, none⟩) hb).trans (hcell j (.string x) (by simp [hjl, hxe]))
          have hd : ls.drop j = x :: ls.drop (j + 1) := by rw [List.drop_eq_getElem_cons hjl, hxe]
          have hV' := hV.out
          rw [hd] at hV'
          have hVx := Lib.hid hV'
          clear hcell hxe hd
          obtain ⟨An, cn, hVe, hcn1, hcn2, _⟩ := hV'
          subst hVe
          obtain ⟨nn, hnn⟩ : ∃ nn, nn = (x :: ls.drop (j + 1)).length := ⟨_, rfl⟩
          rw [← hnn] at hne hBox hVx hcn1
          clear hnn
          obtain ⟨k0, k1, k2, k3, k4, k5, k6, k7, k8, k9, k10, k11, f0⟩ := hBox.out
          go_wp2_with fail
          refine Calls.mono (pull1_0 (.slice An nn cn) (.slice none 0 0) x (ls.drop (j + 1)) ⟨#[]⟩ 0 0 0 0 0 0 0 0 3 wr hVx.out ⟨_, _, _, rfl⟩ (by rw [List.length_drop]; have := HN.out; omega)) ?_
          rintro e w2 ⟨V2, rfl, hV2, hown2, hb2⟩
          have hV2' := Lib.hid hV2
          obtain ⟨A2, c2, rfl, _, _, _⟩ := hV2
          obtain ⟨n2, hn2⟩ : ∃ n2, n2 = (ls.drop (j + 1)).length := ⟨_, rfl⟩
          rw [← hn2] at hV2' hown2 ⊢
          clear hn2
          have HB2 := Lib.hid (box0_below hBox.out hb2 hlt)
          have hne2 : Hid ((Value.slice A2 n2 c2).ownBlock ≠ some w.heap.size) := Lib.hid (fun e => hne.out (hown2 _ hlt e))
          have hlt2 : w.heap.size < w2.heap.size := by have := hb2.size; omega
          have hBel2 := Lib.hid (hBel.out.trans (hb2.mono hBel.out.size))
          clear hown2 hb2 k0 k1 k2 k3 k4 k5 k6 k7 k8 k9 k10 k11 f0
          obtain ⟨k0, k1, k2, k3, k4, k5, k6, k7, k8, k9, k10, k11, f0⟩ := HB2.out
          go_wp2_with fail
          go_roundw
          case rel =>
            have hne' := hne2.out
            refine ⟨j + 1, .slice A2 n2 c2, by omega, by go_num, Lib.hid ?_, Lib.hid ?_, hne2, Lib.hid ?_, by simp only [World.size_alloc, World.size_setCell]; omega⟩
            · exact box0_below (box0_put HB2.out) ((Below.refl _ _).alloc (Nat.le_refl _) _) (by simp only [World.size_setCell]; exact hlt2)
            · refine Strs.on ?_ ((Below.refl _ _).alloc (Nat.le_refl _) _)
              simp only [World.size_setCell]
              iterate 12 refine Strs.set_ ?_ hne' _
              exact hV2'.out
            · refine Below.alloc ?_ (by simp only [World.size_setCell]; omega) _
              have hbb := hBel2.out
              iterate 12 refine Below.setCell ?_ (by exact Nat.le_refl _) _
              exact hbb
          case measure => simp [intOf]; omega
        · obtain rfl : j = k := by omega
          have hd : ls.drop j = [] := by have := HN.out; rw [this]; exact List.drop_length
          have hV' := hV.out
          rw [hd] at hV'
          have hVx := Lib.hid hV'
          clear hd
          obtain ⟨An, cn, hVe, _, _, _⟩ := hV'
          subst hVe
          obtain ⟨k0, k1, k2, k3, k4, k5, k6, k7, k8, k9, k10, k11, f0⟩ := hBox.out
          go_wp2_with fail
          refine Calls.mono (pull0_0 (.slice An 0 cn) (.slice none 0 0) ⟨#[]⟩ 0 0 0 0 0 0 0 0 3 wr hVx.out ⟨_, _, _, rfl⟩) ?_
          rintro e w2 ⟨V2, rfl, hV2, _, hb2⟩
          obtain ⟨A2, c2, rfl, _, _, _⟩ := hV2
          have hBel2 := hBel.out.trans (hb2.mono hBel.out.size)
          clear hb2 k0 k1 k2 k3 k4 k5 k6 k7 k8 k9 k10 k11 f0
          go_wp2_with fail
          refine (awake_any _).mono ?_
          rintro e w3 ⟨rfl, hb3⟩
          go_wp2_with fail
          go_ret
          exact ⟨rfl, (hBel2.alloc hBel2.size _).trans (hb3.mono (by have := hBel2.size; simp only [World.size_alloc]; omega))⟩

/-- The sky's variable: V to side 1, nothing else. -/
def Box1 (w : World) (b : Nat) (V : Value) : Prop := (w.cell? ⟨b, 0, none⟩ = some (.slice none 0 0) ∧ w.cell? ⟨b, 1, none⟩ = some (V) ∧ w.cell? ⟨b, 2, none⟩ = some (.string ⟨#[]⟩) ∧ w.cell? ⟨b, 3, none⟩ = some (.int .i64 0) ∧ w.cell? ⟨b, 4, none⟩ = some (.int .i64 0) ∧ w.cell? ⟨b, 5, none⟩ = some (.int .i64 0) ∧ w.cell? ⟨b, 6, none⟩ = some (.int .i64 0) ∧ w.cell? ⟨b, 7, none⟩ = some (.int .i64 0) ∧ w.cell? ⟨b, 8, none⟩ = some (.int .i64 0) ∧ w.cell? ⟨b, 9, none⟩ = some (.int .i64 0) ∧ w.cell? ⟨b, 10, none⟩ = some (.int .i64 0) ∧ w.cell? ⟨b, 11, none⟩ = some (.int .i64 3) ∧ ∀ o, w.frozen? ⟨b, o, none⟩ = false)

theorem box1_below {w w' : World} {b : Nat} {V : Value} (h : Box1 w b V) (hb : Below w.heap.size w w') (hlt : b < w.heap.size) : Box1 w' b V := by
  obtain ⟨k0, k1, k2, k3, k4, k5, k6, k7, k8, k9, k10, k11, f⟩ := h
  exact ⟨(hb.cell (p := ⟨b, 0, none⟩) hlt).trans k0, (hb.cell (p := ⟨b, 1, none⟩) hlt).trans k1, (hb.cell (p := ⟨b, 2, none⟩) hlt).trans k2, (hb.cell (p := ⟨b, 3, none⟩) hlt).trans k3, (hb.cell (p := ⟨b, 4, none⟩) hlt).trans k4, (hb.cell (p := ⟨b, 5, none⟩) hlt).trans k5, (hb.cell (p := ⟨b, 6, none⟩) hlt).trans k6, (hb.cell (p := ⟨b, 7, none⟩) hlt).trans k7, (hb.cell (p := ⟨b, 8, none⟩) hlt).trans k8, (hb.cell (p := ⟨b, 9, none⟩) hlt).trans k9, (hb.cell (p := ⟨b, 10, none⟩) hlt).trans k10, (hb.cell (p := ⟨b, 11, none⟩) hlt).trans k11, fun o => (hb.frozen (p := ⟨b, o, none⟩) hlt).trans (f o)⟩

theorem box1_put {w : World} {b : Nat} {V V0 : Value} (h : Box1 w b V0) : Box1 ((((((((((((w.setCell ⟨b, 0, none⟩ (.slice none 0 0)).setCell ⟨b, 1, none⟩ (V)).setCell ⟨b, 2, none⟩ (.string ⟨#[]⟩)).setCell ⟨b, 3, none⟩ (.int .i64 0)).setCell ⟨b, 4, none⟩ (.int .i64 0)).setCell ⟨b, 5, none⟩ (.int .i64 0)).setCell ⟨b, 6, none⟩ (.int .i64 0)).setCell ⟨b, 7, none⟩ (.int .i64 0)).setCell ⟨b, 8, none⟩ (.int .i64 0)).setCell ⟨b, 9, none⟩ (.int .i64 0)).setCell ⟨b, 10, none⟩ (.int .i64 0)).setCell ⟨b, 11, none⟩ (.int .i64 3)) b V := by
  obtain ⟨k0, k1, k2, k3, k4, k5, k6, k7, k8, k9, k10, k11, f⟩ := h
  exact ⟨by go_simp, by go_simp, by go_simp, by go_simp, by go_simp, by go_simp, by go_simp, by go_simp, by go_simp, by go_simp, by go_simp, by go_simp, fun o => by go_simp⟩

set_option maxHeartbeats 4000000 in
theorem plain_walk1 (A : Option Addr) (n c : Nat) (ls : List ByteArray) (to : Int) (w : World) (hn : n = ls.length) (hR : Row w w.heap.size A (ls.map .string)) (ht0 : 0 ≤ to) (ht : to ≤ 255) (hto : to % 2 = 1) (hnm : n ≤ 9223372036854775807) :
    Calls Try.prog 4 #[.slice A n c, .int .u8 to] w fun e w' => e = .returned (.bool true) ∧ Below w.heap.size w w' := by
  by_cases h60 : 60 < n
  · clear hto
    go_enter Try.func4, Try.ntmps4
    go_wp2_with (go_at_call 9; refine (awake_any _).mono ?_; rintro e w' ⟨rfl, hb1⟩)
    go_ret
    exact ⟨rfl, hb1⟩
  have HN := Lib.hid hn
  have HR := Lib.hid hR
  clear hn hR
  go_enter Try.func4, Try.ntmps4
  go_wp2_with fail
  go_loopw [23] (fun v wr => ∃ (k : Nat) (V : Value), k ≤ n ∧ v = .int .i64 k ∧ Hid (Box1 wr w.heap.size V) ∧ Hid (Strs wr wr.heap.size V (ls.take k)) ∧ Hid (V.ownBlock ≠ some w.heap.size) ∧ Hid (Below w.heap.size w wr) ∧ w.heap.size < wr.heap.size) (fun v _ => n - (intOf v).toNat)
  case atStart =>
    refine ⟨0, .slice none 0 0, Nat.zero_le _, rfl, ?_, Lib.hid Strs.none_, Lib.hid (by simp [Value.ownBlock]), Lib.hid (by go_grown), by simp⟩
    exact Lib.hid ⟨by go_simp, by go_simp, by go_simp, by go_simp, by go_simp, by go_simp, by go_simp, by go_simp, by go_simp, by go_simp, by go_simp, by go_simp, fun o => by go_simp⟩
  case round =>
    obtain ⟨k, V, hk, rfl, hBox, hV, hne, hBel, hlt⟩ := hrel
    by_cases hkn : k < n
    · obtain ⟨b, off, rfl, hb, hcell⟩ := HR.out.at_ (by have := HN.out; simp; omega)
      have hkl : k < ls.length := by have := HN.out; omega
      obtain ⟨x, hxe⟩ : ∃ x, x = ls[k] := ⟨_, rfl⟩
      have hc : wr.cell? ⟨b, off + k, none⟩ = some (.string x) := (hBel.out.cell (p := ⟨b, off + k, none⟩) hb).trans (hcell k (.string x) (by simp [hkl, hxe]))
      have HX := Lib.hid hxe
      clear hcell hxe
      by_cases hs : 100 < x.size
      · clear hto
        go_wp2_with (go_at_call 9; refine (awake_any _).mono ?_; rintro e w' ⟨rfl, hb1⟩)
        go_ret
        exact ⟨rfl, hBel.out.trans (hb1.mono hBel.out.size)⟩
      · have hV' := hV.out
        obtain ⟨An, cn, hVe, hcn1, hcn2, _⟩ := hV'
        have hle : (ls.take k).length = k := by rw [List.length_take]; omega
        rw [hle] at hVe hcn1
        clear hle
        subst hVe
        have hbx := hBox.out
        obtain ⟨k0, k1, k2, k3, k4, k5, k6, k7, k8, k9, k10, k11, f0⟩ := hbx
        have hmod : (x.size : Int) % 4 = ((x.size % 4 : Nat) : Int) := by omega
        have HM := Lib.hid hmod
        clear hmod
        go_wp2_with fail
        rw [HM.out]
        refine Calls.mono (plain_1 (x.size % 4) (by omega) (.slice none 0 0) (.slice An k cn) (ls.take k) x wr (by omega) hV.out ⟨_, _, _, rfl⟩ (by rw [List.length_take]; omega)) ?_
        rintro e w1 ⟨V1, rfl, hV1, hown1, hb1⟩
        have hV1' := Lib.hid hV1
        obtain ⟨A1, c1, rfl, _, _, _⟩ := hV1
        have hl1 : (ls.take k ++ [x]).length = k + 1 := by rw [List.length_append, List.length_take]; simp; omega
        rw [hl1] at hV1' hown1
        rw [hl1]
        have HB1 := Lib.hid (box1_below hBox.out hb1 hlt)
        have hne1 : Hid ((Value.slice A1 (k + 1) c1).ownBlock ≠ some w.heap.size) := Lib.hid (fun e => hne.out (hown1 _ hlt e))
        have hlt1 : w.heap.size < w1.heap.size := by have := hb1.size; omega
        have hBel1 := Lib.hid (hBel.out.trans (hb1.mono hBel.out.size))
        clear hown1 hb1 hl1 k0 k1 k2 k3 k4 k5 k6 k7 k8 k9 k10 k11 f0 hc
        obtain ⟨k0, k1, k2, k3, k4, k5, k6, k7, k8, k9, k10, k11, f0⟩ := HB1.out
        unfold skyP
        go_wp2_with fail
        go_roundw
        case rel =>
          have hne' := hne1.out
          refine ⟨k + 1, .slice A1 (k + 1) c1, by omega, by go_num, Lib.hid (box1_put HB1.out), Lib.hid ?_, hne1, Lib.hid ?_, by simp only [World.size_setCell]; omega⟩
          · simp only [World.size_setCell]
            rw [List.take_succ_eq_append_getElem hkl, ← HX.out]
            iterate 12 refine Strs.set_ ?_ hne' _
            exact hV1'.out
          · have hbb := hBel1.out
            iterate 12 refine Below.setCell ?_ (by exact Nat.le_refl _) _
            exact hbb
        case measure => simp [intOf]; omega
    · obtain rfl : k = n := by omega
      have hall : ls.take k = ls := by have := HN.out; rw [this]; exact List.take_length
      have hV0 := hV.out
      rw [hall] at hV0
      have hV1 := Lib.hid hV0
      clear hall hV0 hV
      go_wp2_with fail
      go_loopw [43] (fun v wr => ∃ (j : Nat) (V : Value), j ≤ k ∧ v = .int .i64 j ∧ Hid (Box1 wr w.heap.size V) ∧ Hid (Strs wr wr.heap.size V (ls.drop j)) ∧ Hid (V.ownBlock ≠ some w.heap.size) ∧ Hid (Below w.heap.size w wr) ∧ w.heap.size < wr.heap.size) (fun v _ => k - (intOf v).toNat)
      case atStart => exact ⟨0, V, Nat.zero_le _, rfl, hBox, hV1, hne, hBel, hlt⟩
      case round =>
        clear hBox hne hBel hlt hV1
        obtain ⟨j, V, hj, rfl, hBox, hV, hne, hBel, hlt⟩ := hrel
        by_cases hjn : j < k
        · obtain ⟨b, off, rfl, hb, hcell⟩ := HR.out.at_ (by have := HN.out; simp; omega)
          have hjl : j < ls.length := by have := HN.out; omega
          obtain ⟨x, hxe⟩ : ∃ x, x = ls[j] := ⟨_, rfl⟩
          have hc : wr.cell? ⟨b, off + j, none⟩ = some (.string x) := (hBel.out.cell (p := ⟨b, off + j, none⟩) hb).trans (hcell j (.string x) (by simp [hjl, hxe]))
          have hd : ls.drop j = x :: ls.drop (j + 1) := by rw [List.drop_eq_getElem_cons hjl, hxe]
          have hV' := hV.out
          rw [hd] at hV'
          have hVx := Lib.hid hV'
          clear hcell hxe hd
          obtain ⟨An, cn, hVe, hcn1, hcn2, _⟩ := hV'
          subst hVe
          obtain ⟨nn, hnn⟩ : ∃ nn, nn = (x :: ls.drop (j + 1)).length := ⟨_, rfl⟩
          rw [← hnn] at hne hBox hVx hcn1
          clear hnn
          obtain ⟨k0, k1, k2, k3, k4, k5, k6, k7, k8, k9, k10, k11, f0⟩ := hBox.out
          go_wp2_with fail
          refine Calls.mono (pull1_1 (.slice none 0 0) (.slice An nn cn) x (ls.drop (j + 1)) ⟨#[]⟩ 0 0 0 0 0 0 0 0 3 wr hVx.out ⟨_, _, _, rfl⟩ (by rw [List.length_drop]; have := HN.out; omega)) ?_
          rintro e w2 ⟨V2, rfl, hV2, hown2, hb2⟩
          have hV2' := Lib.hid hV2
          obtain ⟨A2, c2, rfl, _, _, _⟩ := hV2
          obtain ⟨n2, hn2⟩ : ∃ n2, n2 = (ls.drop (j + 1)).length := ⟨_, rfl⟩
          rw [← hn2] at hV2' hown2 ⊢
          clear hn2
          have HB2 := Lib.hid (box1_below hBox.out hb2 hlt)
          have hne2 : Hid ((Value.slice A2 n2 c2).ownBlock ≠ some w.heap.size) := Lib.hid (fun e => hne.out (hown2 _ hlt e))
          have hlt2 : w.heap.size < w2.heap.size := by have := hb2.size; omega
          have hBel2 := Lib.hid (hBel.out.trans (hb2.mono hBel.out.size))
          clear hown2 hb2 k0 k1 k2 k3 k4 k5 k6 k7 k8 k9 k10 k11 f0
          obtain ⟨k0, k1, k2, k3, k4, k5, k6, k7, k8, k9, k10, k11, f0⟩ := HB2.out
          go_wp2_with fail
          go_roundw
          case rel =>
            have hne' := hne2.out
            refine ⟨j + 1, .slice A2 n2 c2, by omega, by go_num, Lib.hid ?_, Lib.hid ?_, hne2, Lib.hid ?_, by simp only [World.size_alloc, World.size_setCell]; omega⟩
            · exact box1_below (box1_put HB2.out) ((Below.refl _ _).alloc (Nat.le_refl _) _) (by simp only [World.size_setCell]; exact hlt2)
            · refine Strs.on ?_ ((Below.refl _ _).alloc (Nat.le_refl _) _)
              simp only [World.size_setCell]
              iterate 12 refine Strs.set_ ?_ hne' _
              exact hV2'.out
            · refine Below.alloc ?_ (by simp only [World.size_setCell]; omega) _
              have hbb := hBel2.out
              iterate 12 refine Below.setCell ?_ (by exact Nat.le_refl _) _
              exact hbb
          case measure => simp [intOf]; omega
        · obtain rfl : j = k := by omega
          have hd : ls.drop j = [] := by have := HN.out; rw [this]; exact List.drop_length
          have hV' := hV.out
          rw [hd] at hV'
          have hVx := Lib.hid hV'
          clear hd
          obtain ⟨An, cn, hVe, _, _, _⟩ := hV'
          subst hVe
          obtain ⟨k0, k1, k2, k3, k4, k5, k6, k7, k8, k9, k10, k11, f0⟩ := hBox.out
          go_wp2_with fail
          refine Calls.mono (pull0_1 (.slice none 0 0) (.slice An 0 cn) ⟨#[]⟩ 0 0 0 0 0 0 0 0 3 wr hVx.out ⟨_, _, _, rfl⟩) ?_
          rintro e w2 ⟨V2, rfl, hV2, _, hb2⟩
          obtain ⟨A2, c2, rfl, _, _, _⟩ := hV2
          have hBel2 := hBel.out.trans (hb2.mono hBel.out.size)
          clear hb2 k0 k1 k2 k3 k4 k5 k6 k7 k8 k9 k10 k11 f0
          go_wp2_with fail
          refine (awake_any _).mono ?_
          rintro e w3 ⟨rfl, hb3⟩
          go_wp2_with fail
          go_ret
          exact ⟨rfl, (hBel2.alloc hBel2.size _).trans (hb3.mono (by have := hBel2.size; simp only [World.size_alloc]; omega))⟩

end Go.Proofs.Ytgllojpeggmleaa
