/-
  The packer's parts: flush, literal, match.
-/
import Derived.Test.YtjmggbfhccdpkaaLPak
namespace Go.Proofs.Ytjmggbfhccdpkaa
open Go.RowKit Go.Shelf Go.Proofs.Mem
set_option linter.unusedVariables false

def rowL (rs : List UInt8) : List UInt8 := if rs = [] then [] else UInt8.ofNat (rs.length - 1) :: rs
theorem PkAt.drew {w : World} {B b : Nat} {p v r : Value} {bs rs : List UInt8} (h : PkAt w B b p v r bs rs) : PkAt w.drew B b p v r bs rs := ⟨h.hB, h.blk, h.vo, h.ro, h.ne⟩
theorem PkAt.below {w w' : World} {B b : Nat} {p v r : Value} {bs rs : List UInt8} (h : PkAt w B b p v r bs rs) (hb : Below w.heap.size w w') : PkAt w' B b p v r bs rs :=
  ⟨h.hB, (hb.block b h.lt).trans h.blk, h.vo.kept (row := none) ⟨hb.os, hb.tape, hb.output, hb.size, fun k hk _ => hb.block k hk⟩ (Classical.em _), h.ro.kept (row := none) ⟨hb.os, hb.tape, hb.output, hb.size, fun k hk _ => hb.block k hk⟩ (Classical.em _), h.ne⟩
theorem Pk.below {w w' : World} {B b : Nat} {bs rs : List UInt8} (h : Pk w B b bs rs) (hb : Below w.heap.size w w') : Pk w' B b bs rs := by
  obtain ⟨p, v, r, hp, hP, hz⟩ := h
  exact ⟨p, v, r, hp, hP.below hb, hz⟩
theorem own_cut {w : World} {B n c g : Nat} {xs : List Value} (h : w.ownsRow B 5 1 (.slice (some ⟨g, 0, none⟩) n c) n xs) : w.ownsRow B 5 1 (.slice (some ⟨g, 0, none⟩) 0 c) 0 [] := by
  rcases h.2 with ⟨h1, _⟩ | ⟨g', cap, cur, h1, h2, h3, h4, h5, h6, h7⟩
  · cases h1
  · simp only [Value.slice.injEq, Option.some.injEq, Addr.mk.injEq] at h1
    obtain ⟨⟨rfl, _, _⟩, _, rfl⟩ := h1
    exact ⟨rfl, .inr ⟨g, c, cur, rfl, h2, h3, Nat.zero_le _, h5, h6, rfl⟩⟩

theorem Oth.drew (E : TypeId) (bad : Nat → Prop) (w : World) : Oth E bad w w.drew := ⟨Nat.le_refl _, fun _ _ _ _ => rfl⟩
def PkQ (w : World) (B b : Nat) (bs rs : List UInt8) (e : Ending) (w' : World) : Prop := e = .returned (.tuple #[]) ∧ Pk w' B b bs rs ∧ Below B w w' ∧ Oth 5 (fun q => q = b) w w'

set_option maxHeartbeats 600000 in
theorem flush_any (w : World) (B b : Nat) (bs rs : List UInt8) (h : Pk w B b bs rs) (hr : rs.length ≤ 128) (hlen : bs.length ≤ 900000) (hBw : B ≤ w.heap.size) :
    Calls Try.prog 17 #[.pointer (some ⟨b, 0, none⟩)] w (PkQ w B b (bs ++ rowL rs) []) := by
  obtain ⟨p, v, r, hp, hP, hz⟩ := h
  by_cases h0 : rs = []
  · subst h0
    obtain ⟨A, n, c, rfl⟩ := own_slice hP.ro
    have hn : n = 0 := by
      rcases hP.ro.2 with ⟨h1, _⟩ | ⟨g, cap, cur, h1, _⟩
      · simp only [Value.slice.injEq] at h1; exact h1.2.1
      · simp only [Value.slice.injEq] at h1; exact h1.2.1
    subst hn
    obtain ⟨c0, c1, c2, cf, csh⟩ := hP.cells
    have HP := Lib.hid hP
    have HZ := Lib.hid hz
    clear hP hz
    go_enter Try.func17, Try.ntmps17
    go_wp2_with fail
    go_end0
    refine ⟨rfl, ?_, Below.refl _ _, Oth.refl _ _ _⟩
    rw [show rowL [] = [] from rfl, List.append_nil]
    exact ⟨p, v, _, hp, HP.out, HZ.out⟩
  have hr0 : 0 < rs.length := List.length_pos_iff.2 h0
  obtain ⟨g, c, rfl, hgB, hgl⟩ := hP.ro.form hr0
  obtain ⟨n, hn⟩ : ∃ n, n = rs.length := ⟨_, rfl⟩
  obtain ⟨m, hm⟩ : ∃ m, n = m + 1 := ⟨n - 1, by omega⟩
  rw [← hn] at hP
  obtain ⟨c0, c1, c2, cf, csh⟩ := hP.cells
  have hnc : n ≤ c := by
    rcases hP.ro.2 with ⟨h1, _⟩ | ⟨g', cap, cur, h1, _, _, h4, _⟩
    · cases h1
    · simp only [Value.slice.injEq] at h1; rw [h1.2.2]; rw [hn]; exact h4
  have w1 : IntKind.i64.wrap ((n : Int) - 1) = (m : Int) := by rw [IntKind.wrap_i64]; omega
  have w4 : IntKind.i64.wrap (m : Int) = (m : Int) := by rw [IntKind.wrap_i64]; omega
  have w3 : IntKind.u8.wrap (m : Int) = (m : Int) := by rw [wrap_u8, Nat.mod_eq_of_lt (by omega)]
  have d1 : ((n : Int) == 0) = false := by rw [beq_eq_false_iff_ne]; omega
  have hm8 : m < 256 := by omega
  have hS0 : w.drew.cell? ⟨b, 2, none⟩ = some (.slice (some ⟨g, 0, none⟩) n c) := c2
  have HP := Lib.hid hP
  have HN := Lib.hid hn
  have HM := Lib.hid hm
  have HR0 := Lib.hid h0
  have hnle : n ≤ 128 := by omega
  have hc0 : 0 < c := by omega
  have HPD := Lib.hid hP.drew
  have hbl : bs.length ≤ 1000000 := by omega
  have hBwd : B ≤ w.drew.heap.size := hBw
  clear hP hz hn hm h0 hr0 hr
  go_enter Try.func17, Try.ntmps17
  go_wp2_with fail
  go_region_held3 (fun W => W.cell? ⟨b, 2, none⟩ = some (.slice (some ⟨g, 0, none⟩) n c))
    (first | exact hS0 | exact HQ1.out.cells.2.2.1)
    ((go_at_call 25; (with_reducible refine Calls.mono (pwrite B b p v _ bs rs m _ HPD.out hp hm8 hbl hBwd) ?_); rintro e wa ⟨rfl, ⟨v1, hP1⟩, hB1, hO1⟩; have HQ1 := Lib.hid hP1; have HB1 := Lib.hid hB1; have HO1 := Lib.hid hO1; clear hP1 hB1 hO1))
  have HQD := Lib.hid HQ1.out.drew
  obtain ⟨e0, e1, e2, ef, esh⟩ := HQ1.out.cells
  have hT0 : wa.drew.cell? ⟨b, 2, none⟩ = some (.slice (some ⟨g, 0, none⟩) n c) := e2
  have hbl2 : (bs ++ [UInt8.ofNat m]).length + rs.length ≤ 1000000 := by have := HN.out; rw [List.length_append, List.length_singleton]; omega
  have hBwa : B ≤ wa.drew.heap.size := Nat.le_trans hBw HB1.out.size
  have hpa : addrOk b (.pointer (some ⟨b, 0, none⟩)) := .inr rfl
  go_wp2_with fail
  go_region_held3 (fun W => W.cell? ⟨b, 2, none⟩ = some (.slice (some ⟨g, 0, none⟩) n c))
    (first | exact hT0 | exact HQ2.out.cells.2.2.1)
    ((go_at_call 28; (with_reducible refine Calls.mono (pwriteb B b (.pointer (some ⟨b, 0, none⟩)) v1 (some ⟨g, 0, none⟩) n c (bs ++ [UInt8.ofNat m]) rs _ HQD.out hpa HN.out hbl2 hBwa) ?_); rintro e wb ⟨rfl, ⟨v2, hP2⟩, hB2, hO2⟩; have HQ2 := Lib.hid hP2; have HB2 := Lib.hid hB2; have HO2 := Lib.hid hO2; clear hP2 hB2 hO2))
  obtain ⟨k0, k1, k2, kf, ksh⟩ := HQ2.out.cells
  have HCUT := Lib.hid (own_cut (n := n) (by have h := HQ2.out.ro; rw [← HN.out] at h; exact h))
  go_wp2_with fail
  go_end0
  obtain ⟨z1, z2, z3⟩ := HQ2.out.growR (rs' := []) (Below.refl _ _) (World.grownBy.refl wb _) HCUT.out (.inl rfl) (Nat.le_trans hBwa HB2.out.size)
  refine ⟨rfl, ⟨.pointer (some ⟨b, 0, none⟩), v2, .slice (some ⟨g, 0, none⟩) 0 c, .inr rfl, ?_, fun e => ?_⟩, (((Below.refl B w).drew.trans HB1.out).trans ((Below.refl B wa).drew.trans HB2.out)).trans z2, (((Oth.drew _ _ w).trans HO1.out).trans ((Oth.drew _ _ wa).trans HO2.out)).trans z3⟩
  · have e : bs ++ rowL rs = bs ++ [UInt8.ofNat m] ++ rs := by
      unfold rowL
      rw [if_neg HR0.out, List.append_assoc, show rs.length - 1 = m by have := HN.out; have := HM.out; omega]
      rfl
    rw [e]
    exact z1
  · exfalso
    unfold rowL at e
    rw [if_neg HR0.out] at e
    simp at e

set_option maxHeartbeats 2000000 in
theorem literal_any (w : World) (B b c : Nat) (bs rs : List UInt8) (h : Pk w B b bs rs) (hr : rs.length < 128) (hc : c < 256) (hlen : bs.length ≤ 900000) (hBw : B ≤ w.heap.size) :
    Calls Try.prog 14 #[.pointer (some ⟨b, 0, none⟩), .int .u8 (c : Nat)] w
      (if rs.length + 1 = 128 then PkQ w B b (bs ++ rowL (rs ++ [UInt8.ofNat c])) [] else PkQ w B b bs (rs ++ [UInt8.ofNat c])) := by
  obtain ⟨i0, hi, hz0, hz1, hz2⟩ := info_parts Try.infoU
  obtain ⟨p, v, r, hp, hP, hz⟩ := h
  obtain ⟨c0, c1, c2, cf, csh⟩ := hP.cells
  have HP := Lib.hid hP
  have HZ := Lib.hid hz
  have hlt := hP.lt
  clear hP hz
  by_cases hf : rs.length + 1 = 128
  · rw [if_pos hf]
    have HF := Lib.hid hf
    have hfi : (rs.length : Int) + 1 = 128 := by omega
    clear hf
    go_enter Try.func14, Try.ntmps14
    go_wp2_with (first
      | (at_builtin
         refine wpList_append_row _ rfl _ _ 26 rfl B 5 i0 (.int .u8 0) 1 Try.underlying26 hi hz0 hz1 hz2 rfl _ rs.length (Lib.byteCells rs) rfl (HP.out.ro.alloc _) (w.heap.size + 1) (some ⟨w.heap.size, 0, none⟩) 1 1 [.int .u8 (c : Nat)] rfl rfl (by exact Row.new w #[.int .u8 (c : Nat)] 5) (by intro u hu; simp at hu; subst hu; rfl) (by unfold maxLen; omega) (by omega) (by simp; omega) ?_
         intro r' w2 hown hgrow hat
         obtain ⟨g2, k2, rfl, _, _⟩ := hown.form (Nat.succ_pos _)
         rw [byteCells_snoc rs c hc] at hown
         have hg := HP.out.growR (rs' := rs ++ [UInt8.ofNat c]) ((Below.refl _ _).alloc (Nat.le_refl _) (.cells #[.int .u8 (c : Nat)] 5)) hgrow (by rw [List.length_append]; exact hown) hat hBw
         have HG := Lib.hid hg
         have hb2 : w2.heap[b]? = some (.cells #[p, v, r] 42 (0, 0)) := (hgrow.block b (by simp; omega) (fun e => HP.out.apart HP.out.ro e.symm)).trans ((Lib.alloc_old w _ b hlt).trans HP.out.blk)
         have d2 : w2.cell? ⟨b, 2, none⟩ = some r := by rw [Lib.cell_of_heap hb2]; rfl
         have f2 : w2.frozen? ⟨b, 2, none⟩ = false := Lib.frozen_of_heap hb2 2
         have HPK : Hid (Pk (w2.setCell ⟨b, 2, none⟩ (.slice (some ⟨g2, 0, none⟩) (rs.length + 1) k2)) B b bs (rs ++ [UInt8.ofNat c])) := Lib.hid ⟨p, v, _, hp, hg.1, HZ.out⟩
         have HB2 : Hid (B ≤ (w2.setCell ⟨b, 2, none⟩ (.slice (some ⟨g2, 0, none⟩) (rs.length + 1) k2)).heap.size) := Lib.hid (Nat.le_trans hBw hg.2.1.size)
         clear hown hgrow hat hg hb2)
      | (go_at_call 17
         refine Calls.mono (flush_any _ B b bs (rs ++ [UInt8.ofNat c]) HPK.out (by have := HF.out; rw [List.length_append, List.length_singleton]; omega) hlen HB2.out) ?_
         rintro e w3 ⟨rfl, hp3, hb3, ho3⟩
         have HP3 := Lib.hid hp3
         have HB3 := Lib.hid (HG.out.2.1.trans hb3)
         have HO3 := Lib.hid (HG.out.2.2.trans ho3)
         clear hp3 hb3 ho3))
    go_end0
    exact ⟨rfl, HP3.out, HB3.out, HO3.out⟩
  · rw [if_neg hf]
    have hfi : ((rs.length : Int) + 1 == 128) = false := by rw [beq_eq_false_iff_ne]; omega
    have HF := Lib.hid hf
    clear hf
    go_enter Try.func14, Try.ntmps14
    go_wp2_with (at_builtin
                 refine wpList_append_row _ rfl _ _ 26 rfl B 5 i0 (.int .u8 0) 1 Try.underlying26 hi hz0 hz1 hz2 rfl _ rs.length (Lib.byteCells rs) rfl (HP.out.ro.alloc _) (w.heap.size + 1) (some ⟨w.heap.size, 0, none⟩) 1 1 [.int .u8 (c : Nat)] rfl rfl (by exact Row.new w #[.int .u8 (c : Nat)] 5) (by intro u hu; simp at hu; subst hu; rfl) (by unfold maxLen; omega) (by omega) (by simp; omega) ?_
                 intro r' w2 hown hgrow hat
                 obtain ⟨g2, k2, rfl, _, _⟩ := hown.form (Nat.succ_pos _)
                 rw [byteCells_snoc rs c hc] at hown
                 have hg := HP.out.growR (rs' := rs ++ [UInt8.ofNat c]) ((Below.refl _ _).alloc (Nat.le_refl _) (.cells #[.int .u8 (c : Nat)] 5)) hgrow (by rw [List.length_append]; exact hown) hat hBw
                 have HG := Lib.hid hg
                 have hb2 : w2.heap[b]? = some (.cells #[p, v, r] 42 (0, 0)) := (hgrow.block b (by simp; omega) (fun e => HP.out.apart HP.out.ro e.symm)).trans ((Lib.alloc_old w _ b hlt).trans HP.out.blk)
                 have d2 : w2.cell? ⟨b, 2, none⟩ = some r := by rw [Lib.cell_of_heap hb2]; rfl
                 have f2 : w2.frozen? ⟨b, 2, none⟩ = false := Lib.frozen_of_heap hb2 2
                 clear hown hgrow hat hg hb2)
    go_end0
    exact ⟨rfl, ⟨p, v, _, hp, HG.out.1, HZ.out⟩, HG.out.2.1, HG.out.2.2⟩

theorem putB_len (n : Nat) : (putB n).size ≤ 11 := by
  have : ∀ k m, (putL k m).length ≤ k + 1 := by
    intro k
    induction k with
    | zero => intro m; exact Nat.le_refl _
    | succ k ih =>
      intro m
      show (if m < 128 then _ else _ : List UInt8).length ≤ _
      split
      · simp
      · rw [List.length_cons]; have := ih (m / 128); omega
  exact this 10 n

set_option maxHeartbeats 2000000 in
theorem match_any (w : World) (B b n f : Nat) (bs rs : List UInt8) (h : Pk w B b bs rs) (hr : rs.length ≤ 128) (hn4 : 4 ≤ n) (hn : n ≤ 131) (hf : f ≤ 100000) (hlen : bs.length ≤ 800000) (hBw : B ≤ w.heap.size) :
    Calls Try.prog 15 #[.pointer (some ⟨b, 0, none⟩), .int .i64 (n : Nat), .int .i64 (f : Nat)] w (PkQ w B b (bs ++ rowL rs ++ [UInt8.ofNat (n + 124)] ++ (putB f).data.toList) []) := by
  have HF := Lib.hid (fun W (h : Pk W B b bs rs) hW => flush_any W B b bs rs h hr (by omega) hW)
  have HP := Lib.hid h
  have hrow : (rowL rs).length ≤ 129 := by
    unfold rowL
    split
    · simp
    · rw [List.length_cons]; omega
  obtain ⟨bs1, hbs1⟩ : ∃ l, l = bs ++ rowL rs := ⟨_, rfl⟩
  have hl1 : bs1.length ≤ 900000 := by rw [hbs1, List.length_append]; omega
  rw [← hbs1] at HF ⊢
  have HV := Lib.hid (fun W => vput_any f W (by omega))
  have hps := putB_len f
  obtain ⟨z, hz⟩ : ∃ z, z = putB f := ⟨_, rfl⟩
  rw [← hz] at HV hps ⊢
  obtain ⟨k, hk⟩ : ∃ k, k = n + 124 := ⟨_, rfl⟩
  rw [← hk]
  have q2 : IntKind.u8.wrap (128 + (n : Int) - 4) = (k : Int) := by
    rw [show (128 : Int) + (n : Int) - 4 = (k : Int) by omega, wrap_u8, Nat.mod_eq_of_lt (by omega)]
  have q4 : IntKind.u64.wrap (f : Int) = (f : Int) := by rw [IntKind.wrap_u64]; omega
  have hk8 : k < 256 := by omega
  clear h hbs1 hz hk hrow
  go_enter Try.func15, Try.ntmps15
  go_wp2_with (go_at_call 17; refine Calls.mono (HF.out _ HP.out hBw) ?_)
  rintro e w1 ⟨rfl, ⟨p1, v1, r1, hp1, hP1, _⟩, hB1, hO1⟩
  have HP1 := Lib.hid hP1
  have HB1 := Lib.hid hB1
  have HO1 := Lib.hid hO1
  have hB1s : B ≤ w1.heap.size := Nat.le_trans hBw hB1.size
  clear hP1 hB1 hO1
  go_wp2_with (go_at_call 25; (with_reducible refine Calls.mono (pwrite B b p1 v1 r1 bs1 [] k _ HP1.out hp1 hk8 (by omega) hB1s) ?_))
  rintro e w2 ⟨rfl, ⟨v2, hP2⟩, hB2, hO2⟩
  have HS2 : Hid (PkAt w2.drew B b (.pointer (some ⟨b, 0, none⟩)) v2 r1 (bs1 ++ [UInt8.ofNat k]) []) := Lib.hid hP2.drew
  have HB2 := Lib.hid ((HB1.out.trans hB2).drew)
  have HO2 := Lib.hid ((HO1.out.trans hO2).trans (Oth.drew _ _ w2))
  have hpa : addrOk b (.pointer (some ⟨b, 0, none⟩)) := .inr rfl
  have hl2 : (bs1 ++ [UInt8.ofNat k]).length + z.size ≤ 1000000 := by rw [List.length_append, List.length_singleton]; omega
  clear hP2 hB2 hO2
  go_wp2_with fail
  go_region_held3 (fun W => Hid (B ≤ W.heap.size))
    (first | exact Lib.hid (Nat.le_trans hBw HB4.out.size) | exact Lib.hid (Nat.le_trans hBw HB3.out.size) | exact Lib.hid (Nat.le_trans hBw HB2.out.size))
    (first
      | (go_at_call 27; refine Calls.mono (HV.out _) ?_; rintro e w3 ⟨rfl, hB3⟩; have HS3 := Lib.hid (HS2.out.below hB3); have HO3 := Lib.hid (HO2.out.trans (Oth.below hB3)); have HB3 := Lib.hid (HB2.out.trans (hB3.mono (Nat.le_trans hBw HB2.out.size))); clear hB3)
      | (go_at_call 26; (with_reducible refine Calls.mono (pwrites B b (.pointer (some ⟨b, 0, none⟩)) v2 r1 (bs1 ++ [UInt8.ofNat k]) [] z _ HS3.out hpa hl2 (Nat.le_trans hBw HB3.out.size)) ?_); rintro e w4 ⟨rfl, ⟨v4, hP4⟩, hB4, hO4⟩; have HP4 := Lib.hid hP4; have HB4 := Lib.hid (HB3.out.trans hB4); have HO4 := Lib.hid (HO3.out.trans hO4); clear hP4 hB4 hO4))
  go_wp2_with fail
  go_end0
  refine ⟨rfl, ⟨_, v4, r1, .inr rfl, HP4.out, fun e => ?_⟩, HB4.out, HO4.out⟩
  simp at e

end Go.Proofs.Ytjmggbfhccdpkaa
