/-
  The walk of NetFair: each side.
-/
import Derived.Test.YtgllojpeggmleaaFit2
import Derived.Deep.QuietTactic
import Derived.BigQuiet
import Derived.Deep.CutRange
namespace Go.Proofs.Ytgllojpeggmleaa
open Go.RowKit Go.Proofs.Mem
set_option linter.unusedVariables false

/-- A sky's variable. -/
def BoxS (w : World) (b : Nat) (D0 D1 : Value) (ch : ByteArray) (L : Nat → Int) (fair : Int) : Prop := w.cell? ⟨b, 0, none⟩ = some (D0) ∧ w.cell? ⟨b, 1, none⟩ = some (D1) ∧ w.cell? ⟨b, 2, none⟩ = some (.string ch) ∧ w.cell? ⟨b, 3, none⟩ = some (.int .i64 (L 0)) ∧ w.cell? ⟨b, 4, none⟩ = some (.int .i64 (L 1)) ∧ w.cell? ⟨b, 5, none⟩ = some (.int .i64 (L 2)) ∧ w.cell? ⟨b, 6, none⟩ = some (.int .i64 (L 3)) ∧ w.cell? ⟨b, 7, none⟩ = some (.int .i64 (L 4)) ∧ w.cell? ⟨b, 8, none⟩ = some (.int .i64 (L 5)) ∧ w.cell? ⟨b, 9, none⟩ = some (.int .i64 (L 6)) ∧ w.cell? ⟨b, 10, none⟩ = some (.int .i64 (L 7)) ∧ w.cell? ⟨b, 11, none⟩ = some (.int .i64 fair) ∧ (∀ o, w.frozen? ⟨b, o, none⟩ = false)

theorem BoxS.on {w w' : World} {b : Nat} {D0 D1 : Value} {ch : ByteArray} {L : Nat → Int} {fair : Int} (h : BoxS w b D0 D1 ch L fair) (hb : Below w.heap.size w w') (hlt : b < w.heap.size) : BoxS w' b D0 D1 ch L fair := by
  obtain ⟨k0, k1, k2, k3, k4, k5, k6, k7, k8, k9, k10, k11, kf⟩ := h
  exact ⟨(hb.cell (p := ⟨b, 0, none⟩) hlt).trans k0, (hb.cell (p := ⟨b, 1, none⟩) hlt).trans k1, (hb.cell (p := ⟨b, 2, none⟩) hlt).trans k2, (hb.cell (p := ⟨b, 3, none⟩) hlt).trans k3, (hb.cell (p := ⟨b, 4, none⟩) hlt).trans k4, (hb.cell (p := ⟨b, 5, none⟩) hlt).trans k5, (hb.cell (p := ⟨b, 6, none⟩) hlt).trans k6, (hb.cell (p := ⟨b, 7, none⟩) hlt).trans k7, (hb.cell (p := ⟨b, 8, none⟩) hlt).trans k8, (hb.cell (p := ⟨b, 9, none⟩) hlt).trans k9, (hb.cell (p := ⟨b, 10, none⟩) hlt).trans k10, (hb.cell (p := ⟨b, 11, none⟩) hlt).trans k11, fun o => (hb.frozen (p := ⟨b, o, none⟩) hlt).trans (kf o)⟩
theorem BoxS.put {w : World} {b : Nat} {E0 E1 D0 D1 : Value} {ch' ch : ByteArray} {L' L : Nat → Int} {fair' fair : Int} (h : BoxS w b E0 E1 ch' L' fair') : BoxS ((((((((((((w.setCell ⟨b, 0, none⟩ (D0)).setCell ⟨b, 1, none⟩ (D1)).setCell ⟨b, 2, none⟩ (.string ch)).setCell ⟨b, 3, none⟩ (.int .i64 (L 0))).setCell ⟨b, 4, none⟩ (.int .i64 (L 1))).setCell ⟨b, 5, none⟩ (.int .i64 (L 2))).setCell ⟨b, 6, none⟩ (.int .i64 (L 3))).setCell ⟨b, 7, none⟩ (.int .i64 (L 4))).setCell ⟨b, 8, none⟩ (.int .i64 (L 5))).setCell ⟨b, 9, none⟩ (.int .i64 (L 6))).setCell ⟨b, 10, none⟩ (.int .i64 (L 7))).setCell ⟨b, 11, none⟩ (.int .i64 fair)) b D0 D1 ch L fair := by
  obtain ⟨k0, k1, k2, k3, k4, k5, k6, k7, k8, k9, k10, k11, kf⟩ := h
  exact ⟨by go_simp, by go_simp, by go_simp, by go_simp, by go_simp, by go_simp, by go_simp, by go_simp, by go_simp, by go_simp, by go_simp, by go_simp, fun o => by go_simp⟩
theorem BoxS.keep {w : World} {b c : Nat} {E0 E1 D0 D1 : Value} {ch' ch : ByteArray} {L' L : Nat → Int} {fair' fair : Int} (h : BoxS w c E0 E1 ch' L' fair') (hc : c ≠ b) : BoxS ((((((((((((w.setCell ⟨b, 0, none⟩ (D0)).setCell ⟨b, 1, none⟩ (D1)).setCell ⟨b, 2, none⟩ (.string ch)).setCell ⟨b, 3, none⟩ (.int .i64 (L 0))).setCell ⟨b, 4, none⟩ (.int .i64 (L 1))).setCell ⟨b, 5, none⟩ (.int .i64 (L 2))).setCell ⟨b, 6, none⟩ (.int .i64 (L 3))).setCell ⟨b, 7, none⟩ (.int .i64 (L 4))).setCell ⟨b, 8, none⟩ (.int .i64 (L 5))).setCell ⟨b, 9, none⟩ (.int .i64 (L 6))).setCell ⟨b, 10, none⟩ (.int .i64 (L 7))).setCell ⟨b, 11, none⟩ (.int .i64 fair)) c E0 E1 ch' L' fair' := by
  obtain ⟨k0, k1, k2, k3, k4, k5, k6, k7, k8, k9, k10, k11, kf⟩ := h
  have hb : b ≠ c := fun e => hc e.symm
  exact ⟨by go_simp, by go_simp, by go_simp, by go_simp, by go_simp, by go_simp, by go_simp, by go_simp, by go_simp, by go_simp, by go_simp, by go_simp, fun o => by go_simp⟩
theorem BoxS.new (w : World) (D0 D1 : Value) (ch : ByteArray) (L : Nat → Int) (fair : Int) : BoxS (w.alloc (.cells #[D0, D1, .string ch, .int .i64 (L 0), .int .i64 (L 1), .int .i64 (L 2), .int .i64 (L 3), .int .i64 (L 4), .int .i64 (L 5), .int .i64 (L 6), .int .i64 (L 7), .int .i64 fair] 27)) w.heap.size D0 D1 ch L fair :=
  ⟨by go_simp, by go_simp, by go_simp, by go_simp, by go_simp, by go_simp, by go_simp, by go_simp, by go_simp, by go_simp, by go_simp, by go_simp, fun o => by go_simp⟩
/-- The length of the slice in a cell. -/
def lenAt (b o : Nat) (w : World) : Nat := match w.cell? ⟨b, o, none⟩ with | some (.slice _ n _) => n | _ => 0

theorem bytes_of_list {y x : ByteArray} (e : y.toList = x.toList) : y = x := by
  rw [Lib.toList_data, Lib.toList_data] at e
  cases y; cases x
  congr 1
  exact Array.toList_inj.1 e
theorem postD_mem {ch : ByteArray} {l fair : Int} {ss : List ByteArray} {raw : ByteArray} {x : ByteArray} (h : x ∈ postD ch l fair ss raw) : x ∈ ss ∨ x = raw := by
  unfold postD at h
  split at h
  · exact .inl h
  · split at h
    · have := List.mem_of_mem_drop h
      simp at this
      exact this.symm
    · split at h
      · have := List.mem_of_mem_drop h
        simpa using this
      · have := List.mem_of_mem_drop h
        simpa using this
theorem postD_len (ch : ByteArray) (l fair : Int) (ss : List ByteArray) (raw : ByteArray) (h : ss.length ≤ 60) : (postD ch l fair ss raw).length ≤ 60 := by
  unfold postD
  split
  · exact h
  · split
    · rw [last60_length]; omega
    · split <;> (rw [last60_length]; omega)
theorem postD_nil {ch : ByteArray} {l fair : Int} {ss : List ByteArray} {raw : ByteArray} (h : postD ch l fair ss raw = []) : (wayOf ch = 0 ∧ l + 1 < fair) ∧ ss = [] := by
  unfold postD at h
  split at h
  · rename_i h1; exact ⟨h1, h⟩
  · exfalso
    have h2 := congrArg List.length h
    split at h2
    · rw [last60_length] at h2; simp only [List.length_append, List.length_cons, List.length_nil] at h2; omega
    · split at h2 <;> (rw [last60_length] at h2; simp only [List.length_append, List.length_cons, List.length_nil] at h2; omega)
theorem postL_range {ch : ByteArray} {l fair : Int} (h0 : 0 ≤ l) (h1 : l < fair) : 0 ≤ postL ch l fair ∧ postL ch l fair < fair := by
  unfold postL
  split
  · omega
  · omega
theorem rest_size (ch : ByteArray) : (restOf ch).size ≤ ch.size := by
  unfold restOf
  split
  · rw [ByteArray.size_extract]; omega
  · exact Nat.le_refl _


set_option maxHeartbeats 2000000 in
theorem fair_walk0 (D0 D1 : Value) (S0 S1 : List ByteArray) (ch : ByteArray) (l0 l1 l2 l3 l4 l5 l6 l7 fair sd at_ : Int) (A : Option Addr) (n c : Nat) (ls : List ByteArray) (w : World) (h0 : Strs w w.heap.size D0 S0) (h1 : Strs w w.heap.size D1 S1) (hch : ch.size ≤ 9223372036854775807) (hz0 : S0.length ≤ 9223372036854775807) (hz1 : S1.length ≤ 9223372036854775807)
    (ht0 : 0 ≤ sd) (ht : sd ≤ 255) (hto : sd % 2 = 0) (ha0 : 0 ≤ at_) (ha : at_ ≤ 255) (hn : n = ls.length) (hR : Row w w.heap.size A (ls.map .string)) (hnm : n ≤ 9223372036854775807) :
    Calls Try.prog 3 #[.agg #[D0, D1, .string ch, .int .i64 l0, .int .i64 l1, .int .i64 l2, .int .i64 l3, .int .i64 l4, .int .i64 l5, .int .i64 l6, .int .i64 l7, .int .i64 fair], .int .u8 sd, .int .u8 at_, .slice A n c] w fun e w' => e = .returned (.bool true) ∧ Below w.heap.size w w' := by
  have H0 := Lib.hid h0
  have H1 := Lib.hid h1
  have HR := Lib.hid hR
  have HN := Lib.hid hn
  clear hR hn
  obtain ⟨A0, c0, rfl, hc0a, hc0b, _⟩ := h0
  obtain ⟨A1, c1, rfl, hc1a, hc1b, _⟩ := h1
  obtain ⟨L, hL⟩ : ∃ L, L = mkL l0 l1 l2 l3 l4 l5 l6 l7 := ⟨_, rfl⟩
  obtain ⟨rfl, rfl, rfl, rfl, rfl, rfl, rfl, rfl⟩ : l0 = L 0 ∧ l1 = L 1 ∧ l2 = L 2 ∧ l3 = L 3 ∧ l4 = L 4 ∧ l5 = L 5 ∧ l6 = L 6 ∧ l7 = L 7 := by subst hL; exact ⟨rfl, rfl, rfl, rfl, rfl, rfl, rfl, rfl⟩
  have HL := Lib.hid hL
  clear hL
  by_cases hfew : S0.length ≤ 70 ∧ S1.length ≤ 70 ∧ ch.size ≤ 1000
  case neg =>
    have hd : decide (S0.length ≤ 70 ∧ S1.length ≤ 70 ∧ ch.size ≤ 1000) = false := by simpa using hfew
    have HD := Lib.hid hd
    clear hd hfew hto
    go_enter Try.func3, Try.ntmps3
    go_wp2_with fail
    apply Calls.mono
    · exact few_x _ _ S0 S1 ch _ _ _ _ _ _ _ _ _ _ (by exact H0.out.alloc _) (by exact H1.out.alloc _)
    rintro e w1 ⟨rfl, hb1⟩
    rw [HD.out]
    go_wp2_with fail
    refine (awake_any _).mono ?_
    rintro e w2 ⟨rfl, hb2⟩
    go_wp2_with fail
    go_ret
    exact ⟨rfl, bel (bel (by go_grown) hb1) hb2⟩
  have hd : decide (S0.length ≤ 70 ∧ S1.length ≤ 70 ∧ ch.size ≤ 1000) = true := by simpa using hfew
  have HD := Lib.hid hd
  obtain ⟨hf0, hf1, hf2⟩ := hfew
  clear hd
  go_enter Try.func3, Try.ntmps3
  go_wp2_with fail
  have HBx0 := Lib.hid (BoxS.new w (.slice A0 S0.length c0) (.slice A1 S1.length c1) ch L fair)
  apply Calls.mono
  · exact few_x _ _ S0 S1 ch _ _ _ _ _ _ _ _ _ _ (by exact H0.out.alloc _) (by exact H1.out.alloc _)
  rintro e w1 ⟨rfl, hb1⟩
  rw [HD.out]
  have hlt1 : w.heap.size < w1.heap.size := by have := hb1.size; simp at this; omega
  have hB1 : Below w.heap.size w w1 := bel (by go_grown) hb1
  have HBx1 := Lib.hid (HBx0.out.on hb1 (by simp))
  have HB1 := Lib.hid hB1
  clear hb1 hB1 HBx0
  obtain ⟨k0, k1, k2, k3, k4, k5, k6, k7, k8, k9, k10, k11, kf⟩ := HBx1.out
  go_wp2_with fail
  apply Calls.mono
  · exact fit_x _ _ S0 S1 ch _ _ _ _ _ _ _ _ _ _ ((H0.out.below HB1.out).more HB1.out.size) ((H1.out.below HB1.out).more HB1.out.size) (by omega) (by omega)
  rintro e w2 ⟨b, rfl, hb, hb2⟩
  cases b with
  | false =>
    clear hto
    go_wp2_with fail
    refine (awake_any _).mono ?_
    rintro e w3 ⟨rfl, hb3⟩
    go_wp2_with fail
    go_ret
    exact ⟨rfl, bel (HB1.out.trans (hb2.mono HB1.out.size)) hb3⟩
  | true =>
    have hF := fits_of (hb.1 rfl)
    have hs0 := hF.s0
    have hs1 := hF.s1
    have hfa := hF.f1
    have hfb := hF.f8
    have HF := Lib.hid hF
    have hlt2 : w.heap.size < w2.heap.size := by have := hb2.size; omega
    have HB2 := Lib.hid (HB1.out.trans (hb2.mono HB1.out.size))
    have HBx2 := Lib.hid (HBx1.out.on hb2 hlt1)
    clear hb hF hb2 k0 k1 k2 k3 k4 k5 k6 k7 k8 k9 k10 k11 kf HBx1
    by_cases hn20 : 20 < n
    · clear hto
      have hd : decide ((20 : Int) < (n : Int)) = true := decide_eq_true (by omega)
      go_wp2_with fail
      refine (awake_any _).mono ?_
      rintro e w3 ⟨rfl, hb3⟩
      go_wp2_with fail
      go_ret
      exact ⟨rfl, bel HB2.out hb3⟩
    have hd20 : decide ((20 : Int) < (n : Int)) = false := decide_eq_false (by omega)
    obtain ⟨k0, k1, k2, k3, k4, k5, k6, k7, k8, k9, k10, k11, kf⟩ := HBx2.out
    obtain ⟨a, ha'⟩ : ∃ a : Nat, at_ % 4 = (a : Int) := ⟨(at_ % 4).toNat, by omega⟩
    have ha4 : a < 4 := by omega
    have hLa : 0 ≤ L (4 * 0 + a) ∧ L (4 * 0 + a) < fair := by
      have h4 : a = 0 ∨ a = 1 ∨ a = 2 ∨ a = 3 := by omega
      rcases h4 with rfl | rfl | rfl | rfl
      · exact HF.out.a0
      · exact HF.out.a1
      · exact HF.out.a2
      · exact HF.out.a3
    have HLa := Lib.hid hLa
    clear hLa
    go_wp2_with fail
    obtain ⟨W3, hW3⟩ : ∃ W3, (w2.setCell ⟨w.heap.size, 0, none⟩ (.slice none 0 0)).alloc (.cells #[.slice none 0 0, .slice A1 S1.length c1, .string ch, .int .i64 (L 0), .int .i64 (L 1), .int .i64 (L 2), .int .i64 (L 3), .int .i64 (L 4), .int .i64 (L 5), .int .i64 (L 6), .int .i64 (L 7), .int .i64 fair] 27) = W3 := ⟨_, rfl⟩
    have hs3 : BoxS W3 w.heap.size (.slice none 0 0) (.slice A1 S1.length c1) ch L fair := by
      rw [← hW3]
      clear hW3
      exact ⟨by go_simp, by go_simp, by go_simp, by go_simp, by go_simp, by go_simp, by go_simp, by go_simp, by go_simp, by go_simp, by go_simp, by go_simp, fun o => by go_simp⟩
    have ht3 : BoxS W3 w2.heap.size (.slice none 0 0) (.slice A1 S1.length c1) ch L fair := by
      have h := BoxS.new (w2.setCell ⟨w.heap.size, 0, none⟩ (.slice none 0 0)) (.slice none 0 0) (.slice A1 S1.length c1) ch L fair
      rw [World.size_setCell, hW3] at h
      exact h
    have hB3 : Below w.heap.size w W3 := by
      rw [← hW3]
      exact (HB2.out.setCell (p := ⟨w.heap.size, 0, none⟩) (Nat.le_refl _) _).alloc (by simp only [World.size_setCell]; omega) _
    have hg3 : w2.heap.size < W3.heap.size := by rw [← hW3]; simp
    rw [hW3]
    have Hs3 := Lib.hid hs3
    have Ht3 := Lib.hid ht3
    have HB3 := Lib.hid hB3
    clear hs3 ht3 hB3 hW3 k0 k1 k2 k3 k4 k5 k6 k7 k8 k9 k10 k11 kf HBx2 HB2 HB1 hto
    generalize w2.heap.size = gt at *
    have hne : w.heap.size ≠ gt := by omega
    go_loopw [42] (fun v wr => ∃ (k : Nat) (V : Value) (ss : List ByteArray) (ch' : ByteArray) (M : Nat → Int), v = .int .i64 k ∧ k ≤ n ∧ Hid (BoxS wr w.heap.size (.slice none 0 0) (.slice A1 S1.length c1) ch L fair) ∧ Hid (BoxS wr gt V (.slice A1 S1.length c1) ch' M fair) ∧ Hid (Strs wr wr.heap.size V ss) ∧ ss.length ≤ 60 ∧ Hid (∀ x ∈ ss, x ∈ ls) ∧ Hid (V.ownBlock ≠ some gt) ∧ Hid (Below w.heap.size w wr) ∧ gt < wr.heap.size ∧ ch'.size ≤ 1000 ∧ Hid (0 ≤ M (4 * 0 + a) ∧ M (4 * 0 + a) < fair) ∧ Hid (ss = [] → (k : Int) ≤ M (4 * 0 + a))) (fun v _ => n + 1 - (intOf v).toNat)
    case atStart =>
      exact ⟨0, .slice none 0 0, [], ch, L, rfl, Nat.zero_le _, Hs3, Ht3, Lib.hid Strs.none_, by simp, Lib.hid (by simp), Lib.hid (by simp [Value.ownBlock]), HB3, hg3, hf2, HLa, Lib.hid (fun _ => HLa.out.1)⟩
    case round =>
      clear Hs3 Ht3 HB3 HLa
      obtain ⟨k, V, ss, ch', M, rfl, hk, Hs, Ht, HV, hsl, Hmem, Hne, HB, hgt, hch', HM, HE⟩ := hrel
      by_cases hkn : k < n
      · obtain ⟨b, off, rfl, hb, hcell⟩ := HR.out.at_ (by have := HN.out; simp; omega)
        have hkl : k < ls.length := by have := HN.out; omega
        obtain ⟨x, hxe⟩ : ∃ x, x = ls[k] := ⟨_, rfl⟩
        have hc : wr.cell? ⟨b, off + k, none⟩ = some (.string x) := (HB.out.cell (p := ⟨b, off + k, none⟩) hb).trans (hcell k (.string x) (by simp [hkl, hxe]))
        have HX : Hid (x ∈ ls) := Lib.hid (by rw [hxe]; exact List.getElem_mem hkl)
        clear hcell hxe
        by_cases hs : 100 < x.size
        · go_wp2_with (go_at_call 9; refine (awake_any _).mono ?_; rintro e w' ⟨rfl, hb1⟩)
          go_ret
          exact ⟨rfl, HB.out.trans (hb1.mono HB.out.size)⟩
        · obtain ⟨An, cn, hVe, hcn1, hcn2, _⟩ := HV.out
          subst hVe
          have hM1 := HM.out
          obtain ⟨k0, k1, k2, k3, k4, k5, k6, k7, k8, k9, k10, k11, kf⟩ := Ht.out
          go_wp2_with fail
          refine Calls.mono (post_any 0 a (by omega) ha4 (two (.slice An ss.length cn) (.slice A1 S1.length c1)) ss ch' x M fair wr (by omega) (by omega) HV.out ⟨_, _, _, rfl⟩ (by omega) hM1.1 (by omega)) ?_
          rintro e w4 ⟨V1, rfl, hV1, hown1, hb1⟩
          obtain ⟨M', hM'⟩ : ∃ M', M' = upd M (4 * 0 + a) (postL ch' (M (4 * 0 + a)) fair) := ⟨_, rfl⟩
          have hMa : M' (4 * 0 + a) = postL ch' (M (4 * 0 + a)) fair := by rw [hM']; unfold upd; rw [if_pos rfl]
          rw [← hM']
          have hmr := postL_range (ch := ch') hM1.1 hM1.2
          have hlen := postD_len ch' (M (4 * 0 + a)) fair ss x hsl
          have hE' : postD ch' (M (4 * 0 + a)) fair ss x = [] → ((k + 1 : Nat) : Int) ≤ M' (4 * 0 + a) := by
            intro h
            obtain ⟨h1, h2⟩ := postD_nil h
            have h3 := HE.out h2
            rw [hMa]
            unfold postL
            rw [if_pos h1]
            omega
          have hmem' : ∀ y ∈ postD ch' (M (4 * 0 + a)) fair ss x, y ∈ ls := by
            intro y hy
            rcases postD_mem hy with h | rfl
            · exact Hmem.out y h
            · exact HX.out
          rw [← hMa] at hmr
          have HV1 := Lib.hid hV1
          have HE1 := Lib.hid hE'
          have Hmem1 := Lib.hid hmem'
          have Hmr := Lib.hid hmr
          obtain ⟨r, hr⟩ : ∃ r, r = restOf ch' := ⟨_, rfl⟩
          have hrs : r.size ≤ 1000 := by rw [hr]; have := rest_size ch'; omega
          rw [← hr]
          generalize postD ch' (M (4 * 0 + a)) fair ss x = ss1 at *
          obtain ⟨A1', c1', rfl, _, _, _⟩ := hV1
          have Ht1 := Lib.hid (Ht.out.on hb1 hgt)
          have Hs1 := Lib.hid (Hs.out.on hb1 (by omega))
          have Hne1 : Hid ((Value.slice A1' ss1.length c1').ownBlock ≠ some gt) := Lib.hid (fun e => Hne.out (hown1 _ hgt e))
          have hgt1 : gt < w4.heap.size := by have := hb1.size; omega
          have HBl1 := Lib.hid (HB.out.trans (hb1.mono HB.out.size))
          clear hown1 hb1 k0 k1 k2 k3 k4 k5 k6 k7 k8 k9 k10 k11 kf hc hM' hMa hmr hE' hmem' hr hM1 HE Hmem HM HV Hne
          obtain ⟨k0, k1, k2, k3, k4, k5, k6, k7, k8, k9, k10, k11, kf⟩ := Ht1.out
          unfold skyV
          dsimp only
          rw [show upd (two (.slice An ss.length cn) (.slice A1 S1.length c1)) 0 (Value.slice A1' ss1.length c1') 0 = (.slice A1' ss1.length c1') from rfl, show upd (two (.slice An ss.length cn) (.slice A1 S1.length c1)) 0 (Value.slice A1' ss1.length c1') 1 = (.slice A1 S1.length c1) from rfl]
          go_wp2_with fail
          go_roundw
          case rel =>
            have hne' := Hne1.out
            refine ⟨k + 1, .slice A1' ss1.length c1', ss1, r, M', by go_num, by omega, Lib.hid (Hs1.out.keep hne), Lib.hid Ht1.out.put, Lib.hid ?_, hlen, Hmem1, Hne1, Lib.hid ?_, by simp only [World.size_setCell]; omega, hrs, Hmr, HE1⟩
            · simp only [World.size_setCell]
              iterate 12 refine Strs.set_ ?_ hne' _
              exact HV1.out
            · have hbb := HBl1.out
              iterate 12 refine Below.setCell ?_ (by show w.heap.size ≤ gt; omega) _
              exact hbb
          case measure => simp [intOf]; omega
      · obtain rfl : k = n := by omega
        obtain ⟨An, cn, hVe, hcn1, hcn2, _⟩ := HV.out
        subst hVe
        obtain ⟨k0, k1, k2, k3, k4, k5, k6, k7, k8, k9, k10, k11, kf⟩ := Ht.out
        obtain ⟨s0, s1, s2, s3, s4, s5, s6, s7, s8, s9, s10, s11, sf⟩ := Hs.out
        have HB' := HB
        go_wp2_with fail
        go_cut [85] from 58 to 84 (fun v wx => v = .bool false ∧ Hid (Below wr.heap.size wr wx))
        case first =>
          by_cases hfl : fair ≤ (k : Int)
          · have hd : decide (fair ≤ (k : Int)) = true := decide_eq_true hfl
            have hz : ((ss.length : Int) == 0) = false := by
              refine beq_eq_false_iff_ne.2 ?_
              intro e
              have := HE.out (List.length_eq_zero_iff.1 (by omega))
              have := HM.out
              omega
            go_quiet (fail)
            go_wp2_with fail
            go_meet
            exact ⟨rfl, Lib.hid (below_drewN (Below.refl _ _) _)⟩
          · have hd : decide (fair ≤ (k : Int)) = false := decide_eq_false hfl
            go_quiet (fail)
            go_wp2_with fail
            go_meet
            exact ⟨rfl, Lib.hid (below_drewN (Below.refl _ _) _)⟩
        case rest =>
          obtain ⟨rfl, hBc⟩ := hcut
          have Ht2 := Lib.hid (Ht.out.on hBc.out hgt)
          have HV2 := Lib.hid (HV.out.on hBc.out)
          have hgt2 : gt < wc.heap.size := Nat.lt_of_lt_of_le hgt hBc.out.size
          have HB2 := Lib.hid (HB.out.trans (hBc.out.mono HB.out.size))
          clear k0 k1 k2 k3 k4 k5 k6 k7 k8 k9 k10 k11 kf s0 s1 s2 s3 s4 s5 s6 s7 s8 s9 s10 s11 sf Hs Ht HV HB hBc HB' hgt
          go_wp2_with fail
          go_loopw [] (fun wq => ∃ (V : Value) (ss : List ByteArray), Hid (BoxS wq gt V (.slice A1 S1.length c1) ch' M fair) ∧ Hid (Strs wq wq.heap.size V ss) ∧ ss.length ≤ 60 ∧ Hid (∀ x ∈ ss, x ∈ ls) ∧ Hid (V.ownBlock ≠ some gt) ∧ Hid (Below w.heap.size w wq) ∧ gt < wq.heap.size) (fun wq => lenAt gt 0 wq)
          case atStart => exact ⟨_, ss, Ht2, HV2, hsl, Hmem, Hne, HB2, hgt2⟩
          case round =>
            clear Ht2 HV2 hsl Hmem Hne HB2 hgt2 hcn1 hcn2
            obtain ⟨V, ss, Ht, HV, hsl, Hmem, Hne, HB, hgt⟩ := hrel
            rename World => wq
            obtain ⟨Aq, cq, hVe, hcn1, hcn2, _⟩ := HV.out
            subst hVe
            obtain ⟨k0, k1, k2, k3, k4, k5, k6, k7, k8, k9, k10, k11, kf⟩ := Ht.out
            cases ss with
            | nil =>
              go_wp2_with fail
              refine Calls.mono (pull0_0 (.slice Aq ([] : List ByteArray).length cq) (.slice A1 S1.length c1) ch' (M 0) (M 1) (M 2) (M 3) (M 4) (M 5) (M 6) (M 7) fair wq HV.out ⟨_, _, _, rfl⟩) ?_
              rintro e w5 ⟨V5, rfl, hV5, -, hb5⟩
              obtain ⟨A5, c5, rfl, -, -, -⟩ := hV5
              have hgt5 := Nat.lt_of_lt_of_le hgt hb5.size
              have hba : Below w5.heap.size w5 (w5.alloc (.cells #[.slice A5 0 c5, .slice A1 S1.length c1, .string ch', .int .i64 (M 0), .int .i64 (M 1), .int .i64 (M 2), .int .i64 (M 3), .int .i64 (M 4), .int .i64 (M 5), .int .i64 (M 6), .int .i64 (M 7), .int .i64 fair] 27)) := (Below.refl _ _).alloc (Nat.le_refl _) _
              have Ht5 := Lib.hid ((Ht.out.on hb5 hgt).on hba hgt5)
              have HB5 := Lib.hid ((HB.out.trans (hb5.mono HB.out.size)).trans (hba.mono (Nat.le_trans HB.out.size hb5.size)))
              clear hb5 k0 k1 k2 k3 k4 k5 k6 k7 k8 k9 k10 k11 kf hba
              obtain ⟨k0, k1, k2, k3, k4, k5, k6, k7, k8, k9, k10, k11, kf⟩ := Ht5.out
              dsimp only
              simp only [List.length_nil] at *
              trace_state
              go_wp2_with (go_at_call 9; refine (awake_any _).mono ?_; rintro e w6 ⟨rfl, hb6⟩)
              go_ret
              exact ⟨rfl, bel HB5.out hb6⟩
            | cons x ss =>
              have HLen : Hid (lenAt gt 0 wq = ss.length + 1) := Lib.hid (by unfold lenAt; rw [k0]; rfl)
              have hmx : x ∈ ls := Hmem.out x (List.mem_cons_self ..)
              go_wp2_with fail
              refine Calls.mono (pull1_0 (.slice Aq (x :: ss).length cq) (.slice A1 S1.length c1) x ss ch' (M 0) (M 1) (M 2) (M 3) (M 4) (M 5) (M 6) (M 7) fair wq HV.out ⟨_, _, _, rfl⟩ (by simp only [List.length_cons] at hsl; omega)) ?_
              rintro e w5 ⟨V5, rfl, hV5, hown5, hb5⟩
              have HV5 := Lib.hid hV5
              obtain ⟨A5, c5, rfl, -, -, -⟩ := hV5
              have hgt5 := Nat.lt_of_lt_of_le hgt hb5.size
              have Hne5 : Hid ((Value.slice A5 ss.length c5).ownBlock ≠ some gt) := Lib.hid (fun e => Hne.out (hown5 _ hgt e))
              have hba : Below w5.heap.size w5 (w5.alloc (.cells #[.slice A5 ss.length c5, .slice A1 S1.length c1, .string ch', .int .i64 (M 0), .int .i64 (M 1), .int .i64 (M 2), .int .i64 (M 3), .int .i64 (M 4), .int .i64 (M 5), .int .i64 (M 6), .int .i64 (M 7), .int .i64 fair] 27)) := (Below.refl _ _).alloc (Nat.le_refl _) _
              have hT6 := (Ht.out.on hb5 hgt).on hba hgt5
              have hU6 := BoxS.new w5 (.slice A5 ss.length c5) (.slice A1 S1.length c1) ch' M fair
              have hB6 := (HB.out.trans (hb5.mono HB.out.size)).trans (hba.mono (Nat.le_trans HB.out.size hb5.size))
              have hV6 := HV5.out.on hba
              have hgt6 := Nat.lt_of_lt_of_le hgt5 hba.size
              have hgu6 : w5.heap.size < (w5.alloc (.cells #[.slice A5 ss.length c5, .slice A1 S1.length c1, .string ch', .int .i64 (M 0), .int .i64 (M 1), .int .i64 (M 2), .int .i64 (M 3), .int .i64 (M 4), .int .i64 (M 5), .int .i64 (M 6), .int .i64 (M 7), .int .i64 fair] 27)).heap.size := by simp
              have hgne : w5.heap.size ≠ gt := by omega
              have HT6 := Lib.hid hT6
              have HU6 := Lib.hid hU6
              have HB6 := Lib.hid hB6
              have HV6 := Lib.hid hV6
              clear hb5 hba hT6 hU6 hB6 hV6 HV5 k0 k1 k2 k3 k4 k5 k6 k7 k8 k9 k10 k11 kf hown5 Ht HV HB hgt
              dsimp only
              go_wp2_with fail
              generalize w5.alloc (.cells #[.slice A5 ss.length c5, .slice A1 S1.length c1, .string ch', .int .i64 (M 0), .int .i64 (M 1), .int .i64 (M 2), .int .i64 (M 3), .int .i64 (M 4), .int .i64 (M 5), .int .i64 (M 6), .int .i64 (M 7), .int .i64 fair] 27) = W6 at *
              generalize w5.heap.size = gu at *
              go_loopw [16, 106] (fun bv i wx => ∃ (j : Nat) (bb : Bool), i = .int .i64 j ∧ j ≤ k ∧ bv = .bool bb ∧ Hid (bb = true ↔ x ∈ ls.take j) ∧ wx = W6) (fun _ i _ => k + 1 - (intOf i).toNat)
              case atStart => exact ⟨0, false, rfl, Nat.zero_le _, rfl, Lib.hid (by simp), rfl⟩
              case round =>
                obtain ⟨j, bb, rfl, hj, rfl, HBB, rfl⟩ := hrel
                rename World => wz
                by_cases hjk : j < k
                · obtain ⟨b, off, rfl, hb, hcell⟩ := HR.out.at_ (by have := HN.out; simp; omega)
                  have hjl : j < ls.length := by have := HN.out; omega
                  obtain ⟨y, hye⟩ : ∃ y, y = ls[j] := ⟨_, rfl⟩
                  have hc := (HB6.out.cell (p := ⟨b, off + j, none⟩) hb).trans (hcell j (.string y) (by simp [hjl, hye]))
                  have htk : ls.take (j + 1) = ls.take j ++ [y] := by rw [List.take_succ_eq_append_getElem hjl, hye]
                  have HTK := Lib.hid htk
                  clear hcell hye htk
                  cases bb with
                  | true =>
                    go_wp2_with fail
                    go_roundw
                    case rel => exact ⟨j + 1, true, by go_num, by omega, rfl, Lib.hid (by rw [HTK.out]; simp [HBB.out.1 rfl]), trivial⟩
                    case measure => simp [intOf]; omega
                  | false =>
                    by_cases hyx : y = x
                    · subst hyx
                      go_wp2_with fail
                      go_roundw
                      case rel => exact ⟨j + 1, true, by go_num, by omega, rfl, Lib.hid (by rw [HTK.out]; simp), trivial⟩
                      case measure => simp [intOf]; omega
                    · have hd : (y.toList == x.toList) = false := beq_eq_false_iff_ne.2 (fun e => hyx (bytes_of_list e))
                      go_wp2_with fail
                      go_roundw
                      case rel => exact ⟨j + 1, false, by go_num, by omega, rfl, Lib.hid (by
                          rw [HTK.out, List.mem_append, List.mem_singleton]
                          have h1 := HBB.out
                          constructor
                          · intro h; cases h
                          · rintro (h | h)
                            · exact h1.2 h
                            · exact absurd h.symm hyx), trivial⟩
                      case measure => simp [intOf]; omega
                · obtain rfl : j = k := by omega
                  obtain rfl : bb = true := HBB.out.2 (by have := HN.out; rw [this, List.take_length]; exact hmx)
                  obtain ⟨k0, k1, k2, k3, k4, k5, k6, k7, k8, k9, k10, k11, kf⟩ := HT6.out
                  obtain ⟨s0, s1, s2, s3, s4, s5, s6, s7, s8, s9, s10, s11, sf⟩ := HU6.out
                  have hd1 : decide (((x :: ss).length : Int) ≤ (ss.length : Int)) = false := decide_eq_false (by simp only [List.length_cons]; omega)
                  have hd2 : decide ((ss.length : Int) + 1 ≤ (ss.length : Int)) = false := decide_eq_false (by omega)
                  have hd3 : decide ((x :: ss).length ≤ ss.length) = false := decide_eq_false (by simp only [List.length_cons]; omega)
                  go_wp2_with fail
                  have hq : ∀ m, Hid (Below wz.heap.size wz (wz.drewN m)) := fun m => Lib.hid (below_drewN (Below.refl _ _) m)
                  go_quiet (fail)
                  have HQ := hq nq
                  have hgt7 := Nat.lt_of_lt_of_le hgt6 HQ.out.size
                  have HT7 := Lib.hid (HT6.out.on HQ.out hgt6)
                  have HU7 := Lib.hid (HU6.out.on HQ.out hgu6)
                  have HV7 := Lib.hid (HV6.out.on HQ.out)
                  have HB7 := Lib.hid (HB6.out.trans (HQ.out.mono HB6.out.size))
                  clear k0 k1 k2 k3 k4 k5 k6 k7 k8 k9 k10 k11 kf s0 s1 s2 s3 s4 s5 s6 s7 s8 s9 s10 s11 sf hq HQ HT6 HU6 HV6 HB6 hd1 hd2 hd3 hgu6 hgt6 hmx
                  generalize wz.drewN nq = w7 at *
                  obtain ⟨k0, k1, k2, k3, k4, k5, k6, k7, k8, k9, k10, k11, kf⟩ := HT7.out
                  obtain ⟨s0, s1, s2, s3, s4, s5, s6, s7, s8, s9, s10, s11, sf⟩ := HU7.out
                  clear sf
                  set_option maxRecDepth 4000 in
                  go_wp2_with fail
                  go_roundw
                  case rel =>
                    have hne' := Hne5.out
                    refine ⟨.slice A5 ss.length c5, ss, Lib.hid HT7.out.put, Lib.hid ?_, by simp only [List.length_cons] at hsl; omega, Lib.hid (fun y hy => Hmem.out y (List.mem_cons_of_mem _ hy)), Hne5, Lib.hid ?_, by simp only [World.size_setCell]; omega⟩
                    · simp only [World.size_setCell]
                      iterate 12 refine Strs.set_ ?_ hne' _
                      exact HV7.out
                    · have hbb := HB7.out
                      iterate 12 refine Below.setCell ?_ (by show w.heap.size ≤ gt; omega) _
                      exact hbb
                  case measure =>
                    have e1 := (BoxS.put (D0 := (.slice A5 ss.length c5)) (D1 := (.slice A1 S1.length c1)) (ch := ch') (L := M) (fair := fair) HT7.out).1
                    rw [HLen.out]
                    unfold lenAt
                    rw [e1]
                    exact Nat.lt_succ_self _


set_option maxHeartbeats 2000000 in
theorem fair_walk1 (D0 D1 : Value) (S0 S1 : List ByteArray) (ch : ByteArray) (l0 l1 l2 l3 l4 l5 l6 l7 fair sd at_ : Int) (A : Option Addr) (n c : Nat) (ls : List ByteArray) (w : World) (h0 : Strs w w.heap.size D0 S0) (h1 : Strs w w.heap.size D1 S1) (hch : ch.size ≤ 9223372036854775807) (hz0 : S0.length ≤ 9223372036854775807) (hz1 : S1.length ≤ 9223372036854775807)
    (ht0 : 0 ≤ sd) (ht : sd ≤ 255) (hto : sd % 2 = 1) (ha0 : 0 ≤ at_) (ha : at_ ≤ 255) (hn : n = ls.length) (hR : Row w w.heap.size A (ls.map .string)) (hnm : n ≤ 9223372036854775807) :
    Calls Try.prog 3 #[.agg #[D0, D1, .string ch, .int .i64 l0, .int .i64 l1, .int .i64 l2, .int .i64 l3, .int .i64 l4, .int .i64 l5, .int .i64 l6, .int .i64 l7, .int .i64 fair], .int .u8 sd, .int .u8 at_, .slice A n c] w fun e w' => e = .returned (.bool true) ∧ Below w.heap.size w w' := by
  have H0 := Lib.hid h0
  have H1 := Lib.hid h1
  have HR := Lib.hid hR
  have HN := Lib.hid hn
  clear hR hn
  obtain ⟨A0, c0, rfl, hc0a, hc0b, _⟩ := h0
  obtain ⟨A1, c1, rfl, hc1a, hc1b, _⟩ := h1
  obtain ⟨L, hL⟩ : ∃ L, L = mkL l0 l1 l2 l3 l4 l5 l6 l7 := ⟨_, rfl⟩
  obtain ⟨rfl, rfl, rfl, rfl, rfl, rfl, rfl, rfl⟩ : l0 = L 0 ∧ l1 = L 1 ∧ l2 = L 2 ∧ l3 = L 3 ∧ l4 = L 4 ∧ l5 = L 5 ∧ l6 = L 6 ∧ l7 = L 7 := by subst hL; exact ⟨rfl, rfl, rfl, rfl, rfl, rfl, rfl, rfl⟩
  have HL := Lib.hid hL
  clear hL
  by_cases hfew : S0.length ≤ 70 ∧ S1.length ≤ 70 ∧ ch.size ≤ 1000
  case neg =>
    have hd : decide (S0.length ≤ 70 ∧ S1.length ≤ 70 ∧ ch.size ≤ 1000) = false := by simpa using hfew
    have HD := Lib.hid hd
    clear hd hfew hto
    go_enter Try.func3, Try.ntmps3
    go_wp2_with fail
    apply Calls.mono
    · exact few_x _ _ S0 S1 ch _ _ _ _ _ _ _ _ _ _ (by exact H0.out.alloc _) (by exact H1.out.alloc _)
    rintro e w1 ⟨rfl, hb1⟩
    rw [HD.out]
    go_wp2_with fail
    refine (awake_any _).mono ?_
    rintro e w2 ⟨rfl, hb2⟩
    go_wp2_with fail
    go_ret
    exact ⟨rfl, bel (bel (by go_grown) hb1) hb2⟩
  have hd : decide (S0.length ≤ 70 ∧ S1.length ≤ 70 ∧ ch.size ≤ 1000) = true := by simpa using hfew
  have HD := Lib.hid hd
  obtain ⟨hf0, hf1, hf2⟩ := hfew
  clear hd
  go_enter Try.func3, Try.ntmps3
  go_wp2_with fail
  have HBx0 := Lib.hid (BoxS.new w (.slice A0 S0.length c0) (.slice A1 S1.length c1) ch L fair)
  apply Calls.mono
  · exact few_x _ _ S0 S1 ch _ _ _ _ _ _ _ _ _ _ (by exact H0.out.alloc _) (by exact H1.out.alloc _)
  rintro e w1 ⟨rfl, hb1⟩
  rw [HD.out]
  have hlt1 : w.heap.size < w1.heap.size := by have := hb1.size; simp at this; omega
  have hB1 : Below w.heap.size w w1 := bel (by go_grown) hb1
  have HBx1 := Lib.hid (HBx0.out.on hb1 (by simp))
  have HB1 := Lib.hid hB1
  clear hb1 hB1 HBx0
  obtain ⟨k0, k1, k2, k3, k4, k5, k6, k7, k8, k9, k10, k11, kf⟩ := HBx1.out
  go_wp2_with fail
  apply Calls.mono
  · exact fit_x _ _ S0 S1 ch _ _ _ _ _ _ _ _ _ _ ((H0.out.below HB1.out).more HB1.out.size) ((H1.out.below HB1.out).more HB1.out.size) (by omega) (by omega)
  rintro e w2 ⟨b, rfl, hb, hb2⟩
  cases b with
  | false =>
    clear hto
    go_wp2_with fail
    refine (awake_any _).mono ?_
    rintro e w3 ⟨rfl, hb3⟩
    go_wp2_with fail
    go_ret
    exact ⟨rfl, bel (HB1.out.trans (hb2.mono HB1.out.size)) hb3⟩
  | true =>
    have hF := fits_of (hb.1 rfl)
    have hs0 := hF.s0
    have hs1 := hF.s1
    have hfa := hF.f1
    have hfb := hF.f8
    have HF := Lib.hid hF
    have hlt2 : w.heap.size < w2.heap.size := by have := hb2.size; omega
    have HB2 := Lib.hid (HB1.out.trans (hb2.mono HB1.out.size))
    have HBx2 := Lib.hid (HBx1.out.on hb2 hlt1)
    clear hb hF hb2 k0 k1 k2 k3 k4 k5 k6 k7 k8 k9 k10 k11 kf HBx1
    by_cases hn20 : 20 < n
    · clear hto
      have hd : decide ((20 : Int) < (n : Int)) = true := decide_eq_true (by omega)
      go_wp2_with fail
      refine (awake_any _).mono ?_
      rintro e w3 ⟨rfl, hb3⟩
      go_wp2_with fail
      go_ret
      exact ⟨rfl, bel HB2.out hb3⟩
    have hd20 : decide ((20 : Int) < (n : Int)) = false := decide_eq_false (by omega)
    obtain ⟨k0, k1, k2, k3, k4, k5, k6, k7, k8, k9, k10, k11, kf⟩ := HBx2.out
    obtain ⟨a, ha'⟩ : ∃ a : Nat, at_ % 4 = (a : Int) := ⟨(at_ % 4).toNat, by omega⟩
    have ha4 : a < 4 := by omega
    have hLa : 0 ≤ L (4 * 1 + a) ∧ L (4 * 1 + a) < fair := by
      have h4 : a = 0 ∨ a = 1 ∨ a = 2 ∨ a = 3 := by omega
      rcases h4 with rfl | rfl | rfl | rfl
      · exact HF.out.a4
      · exact HF.out.a5
      · exact HF.out.a6
      · exact HF.out.a7
    have HLa := Lib.hid hLa
    clear hLa
    go_wp2_with fail
    obtain ⟨W3, hW3⟩ : ∃ W3, (w2.setCell ⟨w.heap.size, 1, none⟩ (.slice none 0 0)).alloc (.cells #[.slice A0 S0.length c0, .slice none 0 0, .string ch, .int .i64 (L 0), .int .i64 (L 1), .int .i64 (L 2), .int .i64 (L 3), .int .i64 (L 4), .int .i64 (L 5), .int .i64 (L 6), .int .i64 (L 7), .int .i64 fair] 27) = W3 := ⟨_, rfl⟩
    have hs3 : BoxS W3 w.heap.size (.slice A0 S0.length c0) (.slice none 0 0) ch L fair := by
      rw [← hW3]
      clear hW3
      exact ⟨by go_simp, by go_simp, by go_simp, by go_simp, by go_simp, by go_simp, by go_simp, by go_simp, by go_simp, by go_simp, by go_simp, by go_simp, fun o => by go_simp⟩
    have ht3 : BoxS W3 w2.heap.size (.slice A0 S0.length c0) (.slice none 0 0) ch L fair := by
      have h := BoxS.new (w2.setCell ⟨w.heap.size, 1, none⟩ (.slice none 0 0)) (.slice A0 S0.length c0) (.slice none 0 0) ch L fair
      rw [World.size_setCell, hW3] at h
      exact h
    have hB3 : Below w.heap.size w W3 := by
      rw [← hW3]
      exact (HB2.out.setCell (p := ⟨w.heap.size, 1, none⟩) (Nat.le_refl _) _).alloc (by simp only [World.size_setCell]; omega) _
    have hg3 : w2.heap.size < W3.heap.size := by rw [← hW3]; simp
    rw [hW3]
    have Hs3 := Lib.hid hs3
    have Ht3 := Lib.hid ht3
    have HB3 := Lib.hid hB3
    clear hs3 ht3 hB3 hW3 k0 k1 k2 k3 k4 k5 k6 k7 k8 k9 k10 k11 kf HBx2 HB2 HB1 hto
    generalize w2.heap.size = gt at *
    have hne : w.heap.size ≠ gt := by omega
    go_loopw [42] (fun v wr => ∃ (k : Nat) (V : Value) (ss : List ByteArray) (ch' : ByteArray) (M : Nat → Int), v = .int .i64 k ∧ k ≤ n ∧ Hid (BoxS wr w.heap.size (.slice A0 S0.length c0) (.slice none 0 0) ch L fair) ∧ Hid (BoxS wr gt (.slice A0 S0.length c0) V ch' M fair) ∧ Hid (Strs wr wr.heap.size V ss) ∧ ss.length ≤ 60 ∧ Hid (∀ x ∈ ss, x ∈ ls) ∧ Hid (V.ownBlock ≠ some gt) ∧ Hid (Below w.heap.size w wr) ∧ gt < wr.heap.size ∧ ch'.size ≤ 1000 ∧ Hid (0 ≤ M (4 * 1 + a) ∧ M (4 * 1 + a) < fair) ∧ Hid (ss = [] → (k : Int) ≤ M (4 * 1 + a))) (fun v _ => n + 1 - (intOf v).toNat)
    case atStart =>
      exact ⟨0, .slice none 0 0, [], ch, L, rfl, Nat.zero_le _, Hs3, Ht3, Lib.hid Strs.none_, by simp, Lib.hid (by simp), Lib.hid (by simp [Value.ownBlock]), HB3, hg3, hf2, HLa, Lib.hid (fun _ => HLa.out.1)⟩
    case round =>
      clear Hs3 Ht3 HB3 HLa
      obtain ⟨k, V, ss, ch', M, rfl, hk, Hs, Ht, HV, hsl, Hmem, Hne, HB, hgt, hch', HM, HE⟩ := hrel
      by_cases hkn : k < n
      · obtain ⟨b, off, rfl, hb, hcell⟩ := HR.out.at_ (by have := HN.out; simp; omega)
        have hkl : k < ls.length := by have := HN.out; omega
        obtain ⟨x, hxe⟩ : ∃ x, x = ls[k] := ⟨_, rfl⟩
        have hc : wr.cell? ⟨b, off + k, none⟩ = some (.string x) := (HB.out.cell (p := ⟨b, off + k, none⟩) hb).trans (hcell k (.string x) (by simp [hkl, hxe]))
        have HX : Hid (x ∈ ls) := Lib.hid (by rw [hxe]; exact List.getElem_mem hkl)
        clear hcell hxe
        by_cases hs : 100 < x.size
        · go_wp2_with (go_at_call 9; refine (awake_any _).mono ?_; rintro e w' ⟨rfl, hb1⟩)
          go_ret
          exact ⟨rfl, HB.out.trans (hb1.mono HB.out.size)⟩
        · obtain ⟨An, cn, hVe, hcn1, hcn2, _⟩ := HV.out
          subst hVe
          have hM1 := HM.out
          obtain ⟨k0, k1, k2, k3, k4, k5, k6, k7, k8, k9, k10, k11, kf⟩ := Ht.out
          go_wp2_with fail
          refine Calls.mono (post_any 1 a (by omega) ha4 (two (.slice A0 S0.length c0) (.slice An ss.length cn)) ss ch' x M fair wr (by omega) (by omega) HV.out ⟨_, _, _, rfl⟩ (by omega) hM1.1 (by omega)) ?_
          rintro e w4 ⟨V1, rfl, hV1, hown1, hb1⟩
          obtain ⟨M', hM'⟩ : ∃ M', M' = upd M (4 * 1 + a) (postL ch' (M (4 * 1 + a)) fair) := ⟨_, rfl⟩
          have hMa : M' (4 * 1 + a) = postL ch' (M (4 * 1 + a)) fair := by rw [hM']; unfold upd; rw [if_pos rfl]
          rw [← hM']
          have hmr := postL_range (ch := ch') hM1.1 hM1.2
          have hlen := postD_len ch' (M (4 * 1 + a)) fair ss x hsl
          have hE' : postD ch' (M (4 * 1 + a)) fair ss x = [] → ((k + 1 : Nat) : Int) ≤ M' (4 * 1 + a) := by
            intro h
            obtain ⟨h1, h2⟩ := postD_nil h
            have h3 := HE.out h2
            rw [hMa]
            unfold postL
            rw [if_pos h1]
            omega
          have hmem' : ∀ y ∈ postD ch' (M (4 * 1 + a)) fair ss x, y ∈ ls := by
            intro y hy
            rcases postD_mem hy with h | rfl
            · exact Hmem.out y h
            · exact HX.out
          rw [← hMa] at hmr
          have HV1 := Lib.hid hV1
          have HE1 := Lib.hid hE'
          have Hmem1 := Lib.hid hmem'
          have Hmr := Lib.hid hmr
          obtain ⟨r, hr⟩ : ∃ r, r = restOf ch' := ⟨_, rfl⟩
          have hrs : r.size ≤ 1000 := by rw [hr]; have := rest_size ch'; omega
          rw [← hr]
          generalize postD ch' (M (4 * 1 + a)) fair ss x = ss1 at *
          obtain ⟨A1', c1', rfl, _, _, _⟩ := hV1
          have Ht1 := Lib.hid (Ht.out.on hb1 hgt)
          have Hs1 := Lib.hid (Hs.out.on hb1 (by omega))
          have Hne1 : Hid ((Value.slice A1' ss1.length c1').ownBlock ≠ some gt) := Lib.hid (fun e => Hne.out (hown1 _ hgt e))
          have hgt1 : gt < w4.heap.size := by have := hb1.size; omega
          have HBl1 := Lib.hid (HB.out.trans (hb1.mono HB.out.size))
          clear hown1 hb1 k0 k1 k2 k3 k4 k5 k6 k7 k8 k9 k10 k11 kf hc hM' hMa hmr hE' hmem' hr hM1 HE Hmem HM HV Hne
          obtain ⟨k0, k1, k2, k3, k4, k5, k6, k7, k8, k9, k10, k11, kf⟩ := Ht1.out
          unfold skyV
          dsimp only
          rw [show upd (two (.slice A0 S0.length c0) (.slice An ss.length cn)) 1 (Value.slice A1' ss1.length c1') 0 = (.slice A0 S0.length c0) from rfl, show upd (two (.slice A0 S0.length c0) (.slice An ss.length cn)) 1 (Value.slice A1' ss1.length c1') 1 = (.slice A1' ss1.length c1') from rfl]
          go_wp2_with fail
          go_roundw
          case rel =>
            have hne' := Hne1.out
            refine ⟨k + 1, .slice A1' ss1.length c1', ss1, r, M', by go_num, by omega, Lib.hid (Hs1.out.keep hne), Lib.hid Ht1.out.put, Lib.hid ?_, hlen, Hmem1, Hne1, Lib.hid ?_, by simp only [World.size_setCell]; omega, hrs, Hmr, HE1⟩
            · simp only [World.size_setCell]
              iterate 12 refine Strs.set_ ?_ hne' _
              exact HV1.out
            · have hbb := HBl1.out
              iterate 12 refine Below.setCell ?_ (by show w.heap.size ≤ gt; omega) _
              exact hbb
          case measure => simp [intOf]; omega
      · obtain rfl : k = n := by omega
        obtain ⟨An, cn, hVe, hcn1, hcn2, _⟩ := HV.out
        subst hVe
        obtain ⟨k0, k1, k2, k3, k4, k5, k6, k7, k8, k9, k10, k11, kf⟩ := Ht.out
        obtain ⟨s0, s1, s2, s3, s4, s5, s6, s7, s8, s9, s10, s11, sf⟩ := Hs.out
        have HB' := HB
        go_wp2_with fail
        go_cut [85] from 58 to 84 (fun v wx => v = .bool false ∧ Hid (Below wr.heap.size wr wx))
        case first =>
          by_cases hfl : fair ≤ (k : Int)
          · have hd : decide (fair ≤ (k : Int)) = true := decide_eq_true hfl
            have hz : ((ss.length : Int) == 0) = false := by
              refine beq_eq_false_iff_ne.2 ?_
              intro e
              have := HE.out (List.length_eq_zero_iff.1 (by omega))
              have := HM.out
              omega
            go_quiet (fail)
            go_wp2_with fail
            go_meet
            exact ⟨rfl, Lib.hid (below_drewN (Below.refl _ _) _)⟩
          · have hd : decide (fair ≤ (k : Int)) = false := decide_eq_false hfl
            go_quiet (fail)
            go_wp2_with fail
            go_meet
            exact ⟨rfl, Lib.hid (below_drewN (Below.refl _ _) _)⟩
        case rest =>
          obtain ⟨rfl, hBc⟩ := hcut
          have Ht2 := Lib.hid (Ht.out.on hBc.out hgt)
          have HV2 := Lib.hid (HV.out.on hBc.out)
          have hgt2 : gt < wc.heap.size := Nat.lt_of_lt_of_le hgt hBc.out.size
          have HB2 := Lib.hid (HB.out.trans (hBc.out.mono HB.out.size))
          clear k0 k1 k2 k3 k4 k5 k6 k7 k8 k9 k10 k11 kf s0 s1 s2 s3 s4 s5 s6 s7 s8 s9 s10 s11 sf Hs Ht HV HB hBc HB' hgt
          go_wp2_with fail
          go_loopw [] (fun wq => ∃ (V : Value) (ss : List ByteArray), Hid (BoxS wq gt (.slice A0 S0.length c0) V ch' M fair) ∧ Hid (Strs wq wq.heap.size V ss) ∧ ss.length ≤ 60 ∧ Hid (∀ x ∈ ss, x ∈ ls) ∧ Hid (V.ownBlock ≠ some gt) ∧ Hid (Below w.heap.size w wq) ∧ gt < wq.heap.size) (fun wq => lenAt gt 1 wq)
          case atStart => exact ⟨_, ss, Ht2, HV2, hsl, Hmem, Hne, HB2, hgt2⟩
          case round =>
            clear Ht2 HV2 hsl Hmem Hne HB2 hgt2 hcn1 hcn2
            obtain ⟨V, ss, Ht, HV, hsl, Hmem, Hne, HB, hgt⟩ := hrel
            rename World => wq
            obtain ⟨Aq, cq, hVe, hcn1, hcn2, _⟩ := HV.out
            subst hVe
            obtain ⟨k0, k1, k2, k3, k4, k5, k6, k7, k8, k9, k10, k11, kf⟩ := Ht.out
            cases ss with
            | nil =>
              go_wp2_with fail
              refine Calls.mono (pull0_1 (.slice A0 S0.length c0) (.slice Aq ([] : List ByteArray).length cq) ch' (M 0) (M 1) (M 2) (M 3) (M 4) (M 5) (M 6) (M 7) fair wq HV.out ⟨_, _, _, rfl⟩) ?_
              rintro e w5 ⟨V5, rfl, hV5, -, hb5⟩
              obtain ⟨A5, c5, rfl, -, -, -⟩ := hV5
              have hgt5 := Nat.lt_of_lt_of_le hgt hb5.size
              have hba : Below w5.heap.size w5 (w5.alloc (.cells #[.slice A0 S0.length c0, .slice A5 0 c5, .string ch', .int .i64 (M 0), .int .i64 (M 1), .int .i64 (M 2), .int .i64 (M 3), .int .i64 (M 4), .int .i64 (M 5), .int .i64 (M 6), .int .i64 (M 7), .int .i64 fair] 27)) := (Below.refl _ _).alloc (Nat.le_refl _) _
              have Ht5 := Lib.hid ((Ht.out.on hb5 hgt).on hba hgt5)
              have HB5 := Lib.hid ((HB.out.trans (hb5.mono HB.out.size)).trans (hba.mono (Nat.le_trans HB.out.size hb5.size)))
              clear hb5 k0 k1 k2 k3 k4 k5 k6 k7 k8 k9 k10 k11 kf hba
              obtain ⟨k0, k1, k2, k3, k4, k5, k6, k7, k8, k9, k10, k11, kf⟩ := Ht5.out
              dsimp only
              simp only [List.length_nil] at *
              trace_state
              go_wp2_with (go_at_call 9; refine (awake_any _).mono ?_; rintro e w6 ⟨rfl, hb6⟩)
              go_ret
              exact ⟨rfl, bel HB5.out hb6⟩
            | cons x ss =>
              have HLen : Hid (lenAt gt 1 wq = ss.length + 1) := Lib.hid (by unfold lenAt; rw [k1]; rfl)
              have hmx : x ∈ ls := Hmem.out x (List.mem_cons_self ..)
              go_wp2_with fail
              refine Calls.mono (pull1_1 (.slice A0 S0.length c0) (.slice Aq (x :: ss).length cq) x ss ch' (M 0) (M 1) (M 2) (M 3) (M 4) (M 5) (M 6) (M 7) fair wq HV.out ⟨_, _, _, rfl⟩ (by simp only [List.length_cons] at hsl; omega)) ?_
              rintro e w5 ⟨V5, rfl, hV5, hown5, hb5⟩
              have HV5 := Lib.hid hV5
              obtain ⟨A5, c5, rfl, -, -, -⟩ := hV5
              have hgt5 := Nat.lt_of_lt_of_le hgt hb5.size
              have Hne5 : Hid ((Value.slice A5 ss.length c5).ownBlock ≠ some gt) := Lib.hid (fun e => Hne.out (hown5 _ hgt e))
              have hba : Below w5.heap.size w5 (w5.alloc (.cells #[.slice A0 S0.length c0, .slice A5 ss.length c5, .string ch', .int .i64 (M 0), .int .i64 (M 1), .int .i64 (M 2), .int .i64 (M 3), .int .i64 (M 4), .int .i64 (M 5), .int .i64 (M 6), .int .i64 (M 7), .int .i64 fair] 27)) := (Below.refl _ _).alloc (Nat.le_refl _) _
              have hT6 := (Ht.out.on hb5 hgt).on hba hgt5
              have hU6 := BoxS.new w5 (.slice A0 S0.length c0) (.slice A5 ss.length c5) ch' M fair
              have hB6 := (HB.out.trans (hb5.mono HB.out.size)).trans (hba.mono (Nat.le_trans HB.out.size hb5.size))
              have hV6 := HV5.out.on hba
              have hgt6 := Nat.lt_of_lt_of_le hgt5 hba.size
              have hgu6 : w5.heap.size < (w5.alloc (.cells #[.slice A0 S0.length c0, .slice A5 ss.length c5, .string ch', .int .i64 (M 0), .int .i64 (M 1), .int .i64 (M 2), .int .i64 (M 3), .int .i64 (M 4), .int .i64 (M 5), .int .i64 (M 6), .int .i64 (M 7), .int .i64 fair] 27)).heap.size := by simp
              have hgne : w5.heap.size ≠ gt := by omega
              have HT6 := Lib.hid hT6
              have HU6 := Lib.hid hU6
              have HB6 := Lib.hid hB6
              have HV6 := Lib.hid hV6
              clear hb5 hba hT6 hU6 hB6 hV6 HV5 k0 k1 k2 k3 k4 k5 k6 k7 k8 k9 k10 k11 kf hown5 Ht HV HB hgt
              dsimp only
              go_wp2_with fail
              generalize w5.alloc (.cells #[.slice A0 S0.length c0, .slice A5 ss.length c5, .string ch', .int .i64 (M 0), .int .i64 (M 1), .int .i64 (M 2), .int .i64 (M 3), .int .i64 (M 4), .int .i64 (M 5), .int .i64 (M 6), .int .i64 (M 7), .int .i64 fair] 27) = W6 at *
              generalize w5.heap.size = gu at *
              go_loopw [16, 106] (fun bv i wx => ∃ (j : Nat) (bb : Bool), i = .int .i64 j ∧ j ≤ k ∧ bv = .bool bb ∧ Hid (bb = true ↔ x ∈ ls.take j) ∧ wx = W6) (fun _ i _ => k + 1 - (intOf i).toNat)
              case atStart => exact ⟨0, false, rfl, Nat.zero_le _, rfl, Lib.hid (by simp), rfl⟩
              case round =>
                obtain ⟨j, bb, rfl, hj, rfl, HBB, rfl⟩ := hrel
                rename World => wz
                by_cases hjk : j < k
                · obtain ⟨b, off, rfl, hb, hcell⟩ := HR.out.at_ (by have := HN.out; simp; omega)
                  have hjl : j < ls.length := by have := HN.out; omega
                  obtain ⟨y, hye⟩ : ∃ y, y = ls[j] := ⟨_, rfl⟩
                  have hc := (HB6.out.cell (p := ⟨b, off + j, none⟩) hb).trans (hcell j (.string y) (by simp [hjl, hye]))
                  have htk : ls.take (j + 1) = ls.take j ++ [y] := by rw [List.take_succ_eq_append_getElem hjl, hye]
                  have HTK := Lib.hid htk
                  clear hcell hye htk
                  cases bb with
                  | true =>
                    go_wp2_with fail
                    go_roundw
                    case rel => exact ⟨j + 1, true, by go_num, by omega, rfl, Lib.hid (by rw [HTK.out]; simp [HBB.out.1 rfl]), trivial⟩
                    case measure => simp [intOf]; omega
                  | false =>
                    by_cases hyx : y = x
                    · subst hyx
                      go_wp2_with fail
                      go_roundw
                      case rel => exact ⟨j + 1, true, by go_num, by omega, rfl, Lib.hid (by rw [HTK.out]; simp), trivial⟩
                      case measure => simp [intOf]; omega
                    · have hd : (y.toList == x.toList) = false := beq_eq_false_iff_ne.2 (fun e => hyx (bytes_of_list e))
                      go_wp2_with fail
                      go_roundw
                      case rel => exact ⟨j + 1, false, by go_num, by omega, rfl, Lib.hid (by
                          rw [HTK.out, List.mem_append, List.mem_singleton]
                          have h1 := HBB.out
                          constructor
                          · intro h; cases h
                          · rintro (h | h)
                            · exact h1.2 h
                            · exact absurd h.symm hyx), trivial⟩
                      case measure => simp [intOf]; omega
                · obtain rfl : j = k := by omega
                  obtain rfl : bb = true := HBB.out.2 (by have := HN.out; rw [this, List.take_length]; exact hmx)
                  obtain ⟨k0, k1, k2, k3, k4, k5, k6, k7, k8, k9, k10, k11, kf⟩ := HT6.out
                  obtain ⟨s0, s1, s2, s3, s4, s5, s6, s7, s8, s9, s10, s11, sf⟩ := HU6.out
                  have hd1 : decide (((x :: ss).length : Int) ≤ (ss.length : Int)) = false := decide_eq_false (by simp only [List.length_cons]; omega)
                  have hd2 : decide ((ss.length : Int) + 1 ≤ (ss.length : Int)) = false := decide_eq_false (by omega)
                  have hd3 : decide ((x :: ss).length ≤ ss.length) = false := decide_eq_false (by simp only [List.length_cons]; omega)
                  go_wp2_with fail
                  have hq : ∀ m, Hid (Below wz.heap.size wz (wz.drewN m)) := fun m => Lib.hid (below_drewN (Below.refl _ _) m)
                  go_quiet (fail)
                  have HQ := hq nq
                  have hgt7 := Nat.lt_of_lt_of_le hgt6 HQ.out.size
                  have HT7 := Lib.hid (HT6.out.on HQ.out hgt6)
                  have HU7 := Lib.hid (HU6.out.on HQ.out hgu6)
                  have HV7 := Lib.hid (HV6.out.on HQ.out)
                  have HB7 := Lib.hid (HB6.out.trans (HQ.out.mono HB6.out.size))
                  clear k0 k1 k2 k3 k4 k5 k6 k7 k8 k9 k10 k11 kf s0 s1 s2 s3 s4 s5 s6 s7 s8 s9 s10 s11 sf hq HQ HT6 HU6 HV6 HB6 hd1 hd2 hd3 hgu6 hgt6 hmx
                  generalize wz.drewN nq = w7 at *
                  obtain ⟨k0, k1, k2, k3, k4, k5, k6, k7, k8, k9, k10, k11, kf⟩ := HT7.out
                  obtain ⟨s0, s1, s2, s3, s4, s5, s6, s7, s8, s9, s10, s11, sf⟩ := HU7.out
                  clear sf
                  set_option maxRecDepth 4000 in
                  go_wp2_with fail
                  go_roundw
                  case rel =>
                    have hne' := Hne5.out
                    refine ⟨.slice A5 ss.length c5, ss, Lib.hid HT7.out.put, Lib.hid ?_, by simp only [List.length_cons] at hsl; omega, Lib.hid (fun y hy => Hmem.out y (List.mem_cons_of_mem _ hy)), Hne5, Lib.hid ?_, by simp only [World.size_setCell]; omega⟩
                    · simp only [World.size_setCell]
                      iterate 12 refine Strs.set_ ?_ hne' _
                      exact HV7.out
                    · have hbb := HB7.out
                      iterate 12 refine Below.setCell ?_ (by show w.heap.size ≤ gt; omega) _
                      exact hbb
                  case measure =>
                    have e1 := (BoxS.put (D0 := (.slice A0 S0.length c0)) (D1 := (.slice A5 ss.length c5)) (ch := ch') (L := M) (fair := fair) HT7.out).2.1
                    rw [HLen.out]
                    unfold lenAt
                    rw [e1]
                    exact Nat.lt_succ_self _

end Go.Proofs.Ytgllojpeggmleaa
