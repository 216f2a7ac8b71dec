/-
  THE WALK OF NetDoes.
-/
import Derived.Test.YtgllojpeggmleaaNAll
import Derived.Test.YtgllojpeggmleaaNSame
import Derived.Test.YtgllojpeggmleaaAwk
import Derived.Deep.RegionHeld3
namespace Go.Proofs.Ytgllojpeggmleaa
open Go.RowKit Go.Proofs.Mem
set_option linter.unusedVariables false

def IsB (b : Bool) (P : Prop) : Prop := b = true ↔ P
theorem iff_bool {b c : Bool} {P : Prop} (h1 : b = true ↔ P) (h2 : IsB c P) : b = c := by
  unfold IsB at h2
  cases b <;> cases c
  · rfl
  · exact absurd (h1.2 (h2.1 rfl)) (by simp)
  · exact absurd (h2.2 (h1.1 rfl)) (by simp)
  · rfl
theorem some_bool (P : Prop) : ∃ b : Bool, b = true ↔ P := by
  by_cases h : P
  · exact ⟨true, ⟨fun _ => h, fun _ => rfl⟩⟩
  · exact ⟨false, ⟨fun e => (by cases e), fun e => absurd e h⟩⟩

theorem SkyAt.lt {W : World} {B : Nat} {D : Nat → Value} {ch : ByteArray} {L : Nat → Int} {fair : Int} (h : SkyAt W B D ch L fair) : B < W.heap.size := by
  rcases Nat.lt_or_ge B W.heap.size with hl | hl
  · exact hl
  · exfalso
    have h1 := h.1
    unfold World.cell? at h1
    rw [Array.getElem?_eq_none hl] at h1
    cases h1
theorem keep2 {W W' : World} {A B : Nat} {D D' : Nat → Value} {ch ch' : ByteArray} {L L' : Nat → Int} {fair fair' : Int} (HP : Hid (SkyAt W A D ch L fair ∧ SkyAt W B D' ch' L' fair')) (h : Hid (Below W.heap.size W W')) :
    W'.cell? ⟨A, 0, none⟩ = some (D 0) ∧ W'.cell? ⟨A, 1, none⟩ = some (D 1) ∧ W'.cell? ⟨A, 2, none⟩ = some (.string ch) ∧ W'.cell? ⟨A, 3, none⟩ = some (.int .i64 (L 0)) ∧ W'.cell? ⟨A, 4, none⟩ = some (.int .i64 (L 1)) ∧ W'.cell? ⟨A, 5, none⟩ = some (.int .i64 (L 2)) ∧ W'.cell? ⟨A, 6, none⟩ = some (.int .i64 (L 3)) ∧ W'.cell? ⟨A, 7, none⟩ = some (.int .i64 (L 4)) ∧ W'.cell? ⟨A, 8, none⟩ = some (.int .i64 (L 5)) ∧ W'.cell? ⟨A, 9, none⟩ = some (.int .i64 (L 6)) ∧ W'.cell? ⟨A, 10, none⟩ = some (.int .i64 (L 7)) ∧ W'.cell? ⟨A, 11, none⟩ = some (.int .i64 fair) ∧ W'.cell? ⟨B, 0, none⟩ = some (D' 0) ∧ W'.cell? ⟨B, 1, none⟩ = some (D' 1) ∧ W'.cell? ⟨B, 2, none⟩ = some (.string ch') ∧ W'.cell? ⟨B, 3, none⟩ = some (.int .i64 (L' 0)) ∧ W'.cell? ⟨B, 4, none⟩ = some (.int .i64 (L' 1)) ∧ W'.cell? ⟨B, 5, none⟩ = some (.int .i64 (L' 2)) ∧ W'.cell? ⟨B, 6, none⟩ = some (.int .i64 (L' 3)) ∧ W'.cell? ⟨B, 7, none⟩ = some (.int .i64 (L' 4)) ∧ W'.cell? ⟨B, 8, none⟩ = some (.int .i64 (L' 5)) ∧ W'.cell? ⟨B, 9, none⟩ = some (.int .i64 (L' 6)) ∧ W'.cell? ⟨B, 10, none⟩ = some (.int .i64 (L' 7)) ∧ W'.cell? ⟨B, 11, none⟩ = some (.int .i64 fair') ∧ Hid (Below W.heap.size W W') := by
  obtain ⟨h1, h2⟩ := HP.out
  obtain ⟨a0, a1, a2, a3, a4, a5, a6, a7, a8, a9, a10, a11⟩ := h1.kept h.out
  obtain ⟨b0, b1, b2, b3, b4, b5, b6, b7, b8, b9, b10, b11⟩ := h2.kept h.out
  exact ⟨a0, a1, a2, a3, a4, a5, a6, a7, a8, a9, a10, a11, b0, b1, b2, b3, b4, b5, b6, b7, b8, b9, b10, b11, h⟩

theorem keep4 {W W' : World} {A B C E : Nat} {DA DB DC DE : Nat → Value} {cA cB cC cE : ByteArray} {LA LB LC LE : Nat → Int} {fA fB fC fE : Int} (HP : Hid (SkyAt W A DA cA LA fA ∧ SkyAt W B DB cB LB fB ∧ SkyAt W C DC cC LC fC ∧ SkyAt W E DE cE LE fE)) (h : Hid (Below W.heap.size W W')) :
    Hid (Below W.heap.size W W') ∧ W'.cell? ⟨A, 0, none⟩ = some (DA 0) ∧ W'.cell? ⟨A, 1, none⟩ = some (DA 1) ∧ W'.cell? ⟨A, 2, none⟩ = some (.string cA) ∧ W'.cell? ⟨A, 3, none⟩ = some (.int .i64 (LA 0)) ∧ W'.cell? ⟨A, 4, none⟩ = some (.int .i64 (LA 1)) ∧ W'.cell? ⟨A, 5, none⟩ = some (.int .i64 (LA 2)) ∧ W'.cell? ⟨A, 6, none⟩ = some (.int .i64 (LA 3)) ∧ W'.cell? ⟨A, 7, none⟩ = some (.int .i64 (LA 4)) ∧ W'.cell? ⟨A, 8, none⟩ = some (.int .i64 (LA 5)) ∧ W'.cell? ⟨A, 9, none⟩ = some (.int .i64 (LA 6)) ∧ W'.cell? ⟨A, 10, none⟩ = some (.int .i64 (LA 7)) ∧ W'.cell? ⟨A, 11, none⟩ = some (.int .i64 fA) ∧ W'.cell? ⟨B, 0, none⟩ = some (DB 0) ∧ W'.cell? ⟨B, 1, none⟩ = some (DB 1) ∧ W'.cell? ⟨B, 2, none⟩ = some (.string cB) ∧ W'.cell? ⟨B, 3, none⟩ = some (.int .i64 (LB 0)) ∧ W'.cell? ⟨B, 4, none⟩ = some (.int .i64 (LB 1)) ∧ W'.cell? ⟨B, 5, none⟩ = some (.int .i64 (LB 2)) ∧ W'.cell? ⟨B, 6, none⟩ = some (.int .i64 (LB 3)) ∧ W'.cell? ⟨B, 7, none⟩ = some (.int .i64 (LB 4)) ∧ W'.cell? ⟨B, 8, none⟩ = some (.int .i64 (LB 5)) ∧ W'.cell? ⟨B, 9, none⟩ = some (.int .i64 (LB 6)) ∧ W'.cell? ⟨B, 10, none⟩ = some (.int .i64 (LB 7)) ∧ W'.cell? ⟨B, 11, none⟩ = some (.int .i64 fB) ∧ W'.cell? ⟨C, 0, none⟩ = some (DC 0) ∧ W'.cell? ⟨C, 1, none⟩ = some (DC 1) ∧ W'.cell? ⟨C, 2, none⟩ = some (.string cC) ∧ W'.cell? ⟨C, 3, none⟩ = some (.int .i64 (LC 0)) ∧ W'.cell? ⟨C, 4, none⟩ = some (.int .i64 (LC 1)) ∧ W'.cell? ⟨C, 5, none⟩ = some (.int .i64 (LC 2)) ∧ W'.cell? ⟨C, 6, none⟩ = some (.int .i64 (LC 3)) ∧ W'.cell? ⟨C, 7, none⟩ = some (.int .i64 (LC 4)) ∧ W'.cell? ⟨C, 8, none⟩ = some (.int .i64 (LC 5)) ∧ W'.cell? ⟨C, 9, none⟩ = some (.int .i64 (LC 6)) ∧ W'.cell? ⟨C, 10, none⟩ = some (.int .i64 (LC 7)) ∧ W'.cell? ⟨C, 11, none⟩ = some (.int .i64 fC) ∧ W'.cell? ⟨E, 0, none⟩ = some (DE 0) ∧ W'.cell? ⟨E, 1, none⟩ = some (DE 1) ∧ W'.cell? ⟨E, 2, none⟩ = some (.string cE) ∧ W'.cell? ⟨E, 3, none⟩ = some (.int .i64 (LE 0)) ∧ W'.cell? ⟨E, 4, none⟩ = some (.int .i64 (LE 1)) ∧ W'.cell? ⟨E, 5, none⟩ = some (.int .i64 (LE 2)) ∧ W'.cell? ⟨E, 6, none⟩ = some (.int .i64 (LE 3)) ∧ W'.cell? ⟨E, 7, none⟩ = some (.int .i64 (LE 4)) ∧ W'.cell? ⟨E, 8, none⟩ = some (.int .i64 (LE 5)) ∧ W'.cell? ⟨E, 9, none⟩ = some (.int .i64 (LE 6)) ∧ W'.cell? ⟨E, 10, none⟩ = some (.int .i64 (LE 7)) ∧ W'.cell? ⟨E, 11, none⟩ = some (.int .i64 fE) := by
  obtain ⟨h1, h2, h3, h4⟩ := HP.out
  obtain ⟨a0, a1, a2, a3, a4, a5, a6, a7, a8, a9, a10, a11⟩ := h1.kept h.out
  obtain ⟨b0, b1, b2, b3, b4, b5, b6, b7, b8, b9, b10, b11⟩ := h2.kept h.out
  obtain ⟨c0, c1, c2, c3, c4, c5, c6, c7, c8, c9, c10, c11⟩ := h3.kept h.out
  obtain ⟨e0, e1, e2, e3, e4, e5, e6, e7, e8, e9, e10, e11⟩ := h4.kept h.out
  exact ⟨h, a0, a1, a2, a3, a4, a5, a6, a7, a8, a9, a10, a11, b0, b1, b2, b3, b4, b5, b6, b7, b8, b9, b10, b11, c0, c1, c2, c3, c4, c5, c6, c7, c8, c9, c10, c11, e0, e1, e2, e3, e4, e5, e6, e7, e8, e9, e10, e11⟩

set_option maxHeartbeats 4000000 in
theorem does_few1 (D D' : Nat → Value) (S S' : Nat → List ByteArray) (ch ch' raw : ByteArray) (L L' : Nat → Int) (fair fair' to at_ : Int) (w : World) (hch : ch.size ≤ 9223372036854775807) (hch' : ch'.size ≤ 9223372036854775807) (hraw : raw.size ≤ 9223372036854775807)
    (KS : Hid (∀ W, Below w.heap.size w W → SkyP W D S)) (KT : Hid (∀ W, Below w.heap.size w W → SkyP W D' S')) (HZ : Hid (∀ i, i < 2 → ∀ x ∈ S i, x.size ≤ 9223372036854775807))
    (e0 : Hid (∃ A c, D 0 = .slice A (S 0).length c)) (e1 : Hid (∃ A c, D 1 = .slice A (S 1).length c)) (e0' : Hid (∃ A c, D' 0 = .slice A (S' 0).length c)) (e1' : Hid (∃ A c, D' 1 = .slice A (S' 1).length c))
    (F1 : Hid (decide ((S 0).length ≤ 70 ∧ (S 1).length ≤ 70 ∧ ch.size ≤ 1000) = false)) :
    Calls Try.prog 6 #[skyV D ch L fair, skyV D' ch' L' fair', .int .i64 to, .int .i64 at_, .string raw] w fun e w' => e = .returned (.bool true) ∧ Below w.heap.size w w' := by
  unfold skyV
  go_enter Try.func6, Try.ntmps6
  go_wp2_with (first
      | (go_at_call 7
         refine Calls.mono (few_any _ _ _ _ _ _ (by first | exact e0.out | exact e0'.out) (by first | exact e1.out | exact e1'.out)) ?_
         first
           | (rintro e w1 ⟨rfl, hb⟩
              rw [F1.out]
              have S1 : Hid (Below w.heap.size w w1) := Lib.hid (bel (by go_grown) hb)
              have Ts1 : Hid (SkyAt w1 w.heap.size D ch L fair) := Lib.hid (((SkyAt.new w D ch L fair 27).alloc (.cells #[D' 0, D' 1, .string ch', .int .i64 (L' 0), .int .i64 (L' 1), .int .i64 (L' 2), .int .i64 (L' 3), .int .i64 (L' 4), .int .i64 (L' 5), .int .i64 (L' 6), .int .i64 (L' 7), .int .i64 fair'] 27)).kept hb)
              have Tt1 := Lib.hid ((SkyAt.new (w.alloc (.cells #[D 0, D 1, .string ch, .int .i64 (L 0), .int .i64 (L 1), .int .i64 (L 2), .int .i64 (L 3), .int .i64 (L 4), .int .i64 (L 5), .int .i64 (L 6), .int .i64 (L 7), .int .i64 fair] 27)) D' ch' L' fair' 27).kept hb)
              rw [show (w.alloc (.cells #[D 0, D 1, .string ch, .int .i64 (L 0), .int .i64 (L 1), .int .i64 (L 2), .int .i64 (L 3), .int .i64 (L 4), .int .i64 (L 5), .int .i64 (L 6), .int .i64 (L 7), .int .i64 fair] 27)).heap.size = w.heap.size + 1 from by simp] at Tt1
              obtain ⟨s0_, s1_, s2_, s3_, s4_, s5_, s6_, s7_, s8_, s9_, s10_, s11_⟩ := Ts1.out
              obtain ⟨t0_, t1_, t2_, t3_, t4_, t5_, t6_, t7_, t8_, t9_, t10_, t11_⟩ := Tt1.out
              clear hb)
           | (rintro e w2 ⟨rfl, hb⟩
              rw [F2.out]
              have S2 : Hid (Below w1.heap.size w1 w2) := Lib.hid hb
              have Ts2 := Lib.hid (Ts1.out.kept hb)
              have Tt2 := Lib.hid (Tt1.out.kept hb)
              clear s0_ s1_ s2_ s3_ s4_ s5_ s6_ s7_ s8_ s9_ s10_ s11_ t0_ t1_ t2_ t3_ t4_ t5_ t6_ t7_ t8_ t9_ t10_ t11_
              obtain ⟨s0_, s1_, s2_, s3_, s4_, s5_, s6_, s7_, s8_, s9_, s10_, s11_⟩ := Ts2.out
              obtain ⟨t0_, t1_, t2_, t3_, t4_, t5_, t6_, t7_, t8_, t9_, t10_, t11_⟩ := Tt2.out
              clear hb))
      | (go_at_call 9
         refine Calls.mono (awake_any _) ?_
         rintro e w17 ⟨rfl, hb⟩
         have S17 := Lib.hid hb
         clear hb))
  go_ret
  exact ⟨rfl, by repeat (first | exact Below.refl _ _ | refine bel ?_ S1.out | refine bel ?_ S2.out | refine bel ?_ S3.out | refine bel ?_ S4.out | refine bel ?_ S5.out | refine bel ?_ S6.out | refine bel ?_ S7.out | refine bel ?_ S8.out | refine bel ?_ S9.out | refine bel ?_ S10.out | refine bel ?_ S11.out | refine bel ?_ S12.out | refine bel ?_ S13.out | refine bel ?_ S14.out | refine bel ?_ S15.out | refine bel ?_ S16.out | refine bel ?_ S17.out | refine bel ?_ ((Below.refl _ _).alloc (Nat.le_refl _) _))⟩

set_option maxHeartbeats 4000000 in
theorem does_few2 (D D' : Nat → Value) (S S' : Nat → List ByteArray) (ch ch' raw : ByteArray) (L L' : Nat → Int) (fair fair' to at_ : Int) (w : World) (hch : ch.size ≤ 9223372036854775807) (hch' : ch'.size ≤ 9223372036854775807) (hraw : raw.size ≤ 9223372036854775807)
    (KS : Hid (∀ W, Below w.heap.size w W → SkyP W D S)) (KT : Hid (∀ W, Below w.heap.size w W → SkyP W D' S')) (HZ : Hid (∀ i, i < 2 → ∀ x ∈ S i, x.size ≤ 9223372036854775807))
    (e0 : Hid (∃ A c, D 0 = .slice A (S 0).length c)) (e1 : Hid (∃ A c, D 1 = .slice A (S 1).length c)) (e0' : Hid (∃ A c, D' 0 = .slice A (S' 0).length c)) (e1' : Hid (∃ A c, D' 1 = .slice A (S' 1).length c))
    (F1 : Hid (decide ((S 0).length ≤ 70 ∧ (S 1).length ≤ 70 ∧ ch.size ≤ 1000) = true)) (F2 : Hid (decide ((S' 0).length ≤ 70 ∧ (S' 1).length ≤ 70 ∧ ch'.size ≤ 1000) = false)) :
    Calls Try.prog 6 #[skyV D ch L fair, skyV D' ch' L' fair', .int .i64 to, .int .i64 at_, .string raw] w fun e w' => e = .returned (.bool true) ∧ Below w.heap.size w w' := by
  unfold skyV
  go_enter Try.func6, Try.ntmps6
  go_wp2_with (first
      | (go_at_call 7
         refine Calls.mono (few_any _ _ _ _ _ _ (by first | exact e0.out | exact e0'.out) (by first | exact e1.out | exact e1'.out)) ?_
         first
           | (rintro e w1 ⟨rfl, hb⟩
              rw [F1.out]
              have S1 : Hid (Below w.heap.size w w1) := Lib.hid (bel (by go_grown) hb)
              have Ts1 : Hid (SkyAt w1 w.heap.size D ch L fair) := Lib.hid (((SkyAt.new w D ch L fair 27).alloc (.cells #[D' 0, D' 1, .string ch', .int .i64 (L' 0), .int .i64 (L' 1), .int .i64 (L' 2), .int .i64 (L' 3), .int .i64 (L' 4), .int .i64 (L' 5), .int .i64 (L' 6), .int .i64 (L' 7), .int .i64 fair'] 27)).kept hb)
              have Tt1 := Lib.hid ((SkyAt.new (w.alloc (.cells #[D 0, D 1, .string ch, .int .i64 (L 0), .int .i64 (L 1), .int .i64 (L 2), .int .i64 (L 3), .int .i64 (L 4), .int .i64 (L 5), .int .i64 (L 6), .int .i64 (L 7), .int .i64 fair] 27)) D' ch' L' fair' 27).kept hb)
              rw [show (w.alloc (.cells #[D 0, D 1, .string ch, .int .i64 (L 0), .int .i64 (L 1), .int .i64 (L 2), .int .i64 (L 3), .int .i64 (L 4), .int .i64 (L 5), .int .i64 (L 6), .int .i64 (L 7), .int .i64 fair] 27)).heap.size = w.heap.size + 1 from by simp] at Tt1
              obtain ⟨s0_, s1_, s2_, s3_, s4_, s5_, s6_, s7_, s8_, s9_, s10_, s11_⟩ := Ts1.out
              obtain ⟨t0_, t1_, t2_, t3_, t4_, t5_, t6_, t7_, t8_, t9_, t10_, t11_⟩ := Tt1.out
              clear hb)
           | (rintro e w2 ⟨rfl, hb⟩
              rw [F2.out]
              have S2 : Hid (Below w1.heap.size w1 w2) := Lib.hid hb
              have Ts2 := Lib.hid (Ts1.out.kept hb)
              have Tt2 := Lib.hid (Tt1.out.kept hb)
              clear s0_ s1_ s2_ s3_ s4_ s5_ s6_ s7_ s8_ s9_ s10_ s11_ t0_ t1_ t2_ t3_ t4_ t5_ t6_ t7_ t8_ t9_ t10_ t11_
              obtain ⟨s0_, s1_, s2_, s3_, s4_, s5_, s6_, s7_, s8_, s9_, s10_, s11_⟩ := Ts2.out
              obtain ⟨t0_, t1_, t2_, t3_, t4_, t5_, t6_, t7_, t8_, t9_, t10_, t11_⟩ := Tt2.out
              clear hb))
      | (go_at_call 9
         refine Calls.mono (awake_any _) ?_
         rintro e w17 ⟨rfl, hb⟩
         have S17 := Lib.hid hb
         clear hb))
  go_ret
  exact ⟨rfl, by repeat (first | exact Below.refl _ _ | refine bel ?_ S1.out | refine bel ?_ S2.out | refine bel ?_ S3.out | refine bel ?_ S4.out | refine bel ?_ S5.out | refine bel ?_ S6.out | refine bel ?_ S7.out | refine bel ?_ S8.out | refine bel ?_ S9.out | refine bel ?_ S10.out | refine bel ?_ S11.out | refine bel ?_ S12.out | refine bel ?_ S13.out | refine bel ?_ S14.out | refine bel ?_ S15.out | refine bel ?_ S16.out | refine bel ?_ S17.out | refine bel ?_ ((Below.refl _ _).alloc (Nat.le_refl _) _))⟩

set_option maxHeartbeats 4000000 in
theorem does_raw (D D' : Nat → Value) (S S' : Nat → List ByteArray) (ch ch' raw : ByteArray) (L L' : Nat → Int) (fair fair' to at_ : Int) (w : World) (hch : ch.size ≤ 9223372036854775807) (hch' : ch'.size ≤ 9223372036854775807) (hraw : raw.size ≤ 9223372036854775807)
    (KS : Hid (∀ W, Below w.heap.size w W → SkyP W D S)) (KT : Hid (∀ W, Below w.heap.size w W → SkyP W D' S')) (HZ : Hid (∀ i, i < 2 → ∀ x ∈ S i, x.size ≤ 9223372036854775807))
    (e0 : Hid (∃ A c, D 0 = .slice A (S 0).length c)) (e1 : Hid (∃ A c, D 1 = .slice A (S 1).length c)) (e0' : Hid (∃ A c, D' 0 = .slice A (S' 0).length c)) (e1' : Hid (∃ A c, D' 1 = .slice A (S' 1).length c))
    (F1 : Hid (decide ((S 0).length ≤ 70 ∧ (S 1).length ≤ 70 ∧ ch.size ≤ 1000) = true)) (F2 : Hid (decide ((S' 0).length ≤ 70 ∧ (S' 1).length ≤ 70 ∧ ch'.size ≤ 1000) = true)) (f3' : (70000 : Int) < (raw.size : Int)) :
    Calls Try.prog 6 #[skyV D ch L fair, skyV D' ch' L' fair', .int .i64 to, .int .i64 at_, .string raw] w fun e w' => e = .returned (.bool true) ∧ Below w.heap.size w w' := by
  unfold skyV
  go_enter Try.func6, Try.ntmps6
  go_wp2_with (first
      | (go_at_call 7
         refine Calls.mono (few_any _ _ _ _ _ _ (by first | exact e0.out | exact e0'.out) (by first | exact e1.out | exact e1'.out)) ?_
         first
           | (rintro e w1 ⟨rfl, hb⟩
              rw [F1.out]
              have S1 : Hid (Below w.heap.size w w1) := Lib.hid (bel (by go_grown) hb)
              have Ts1 : Hid (SkyAt w1 w.heap.size D ch L fair) := Lib.hid (((SkyAt.new w D ch L fair 27).alloc (.cells #[D' 0, D' 1, .string ch', .int .i64 (L' 0), .int .i64 (L' 1), .int .i64 (L' 2), .int .i64 (L' 3), .int .i64 (L' 4), .int .i64 (L' 5), .int .i64 (L' 6), .int .i64 (L' 7), .int .i64 fair'] 27)).kept hb)
              have Tt1 := Lib.hid ((SkyAt.new (w.alloc (.cells #[D 0, D 1, .string ch, .int .i64 (L 0), .int .i64 (L 1), .int .i64 (L 2), .int .i64 (L 3), .int .i64 (L 4), .int .i64 (L 5), .int .i64 (L 6), .int .i64 (L 7), .int .i64 fair] 27)) D' ch' L' fair' 27).kept hb)
              rw [show (w.alloc (.cells #[D 0, D 1, .string ch, .int .i64 (L 0), .int .i64 (L 1), .int .i64 (L 2), .int .i64 (L 3), .int .i64 (L 4), .int .i64 (L 5), .int .i64 (L 6), .int .i64 (L 7), .int .i64 fair] 27)).heap.size = w.heap.size + 1 from by simp] at Tt1
              obtain ⟨s0_, s1_, s2_, s3_, s4_, s5_, s6_, s7_, s8_, s9_, s10_, s11_⟩ := Ts1.out
              obtain ⟨t0_, t1_, t2_, t3_, t4_, t5_, t6_, t7_, t8_, t9_, t10_, t11_⟩ := Tt1.out
              clear hb)
           | (rintro e w2 ⟨rfl, hb⟩
              rw [F2.out]
              have S2 : Hid (Below w1.heap.size w1 w2) := Lib.hid hb
              have Ts2 := Lib.hid (Ts1.out.kept hb)
              have Tt2 := Lib.hid (Tt1.out.kept hb)
              clear s0_ s1_ s2_ s3_ s4_ s5_ s6_ s7_ s8_ s9_ s10_ s11_ t0_ t1_ t2_ t3_ t4_ t5_ t6_ t7_ t8_ t9_ t10_ t11_
              obtain ⟨s0_, s1_, s2_, s3_, s4_, s5_, s6_, s7_, s8_, s9_, s10_, s11_⟩ := Ts2.out
              obtain ⟨t0_, t1_, t2_, t3_, t4_, t5_, t6_, t7_, t8_, t9_, t10_, t11_⟩ := Tt2.out
              clear hb))
      | (go_at_call 9
         refine Calls.mono (awake_any _) ?_
         rintro e w17 ⟨rfl, hb⟩
         have S17 := Lib.hid hb
         clear hb))
  go_ret
  exact ⟨rfl, by repeat (first | exact Below.refl _ _ | refine bel ?_ S1.out | refine bel ?_ S2.out | refine bel ?_ S3.out | refine bel ?_ S4.out | refine bel ?_ S5.out | refine bel ?_ S6.out | refine bel ?_ S7.out | refine bel ?_ S8.out | refine bel ?_ S9.out | refine bel ?_ S10.out | refine bel ?_ S11.out | refine bel ?_ S12.out | refine bel ?_ S13.out | refine bel ?_ S14.out | refine bel ?_ S15.out | refine bel ?_ S16.out | refine bel ?_ S17.out | refine bel ?_ ((Below.refl _ _).alloc (Nat.le_refl _) _))⟩

set_option maxHeartbeats 4000000 in
theorem does_no_true (D D' : Nat → Value) (S S' : Nat → List ByteArray) (ch ch' raw : ByteArray) (L L' : Nat → Int) (fair fair' to at_ : Int) (w : World) (hch : ch.size ≤ 9223372036854775807) (hch' : ch'.size ≤ 9223372036854775807) (hraw : raw.size ≤ 9223372036854775807)
    (KS : Hid (∀ W, Below w.heap.size w W → SkyP W D S)) (KT : Hid (∀ W, Below w.heap.size w W → SkyP W D' S')) (HZ : Hid (∀ i, i < 2 → ∀ x ∈ S i, x.size ≤ 9223372036854775807))
    (e0 : Hid (∃ A c, D 0 = .slice A (S 0).length c)) (e1 : Hid (∃ A c, D 1 = .slice A (S 1).length c)) (e0' : Hid (∃ A c, D' 0 = .slice A (S' 0).length c)) (e1' : Hid (∃ A c, D' 1 = .slice A (S' 1).length c))
    (F1 : Hid (decide ((S 0).length ≤ 70 ∧ (S 1).length ≤ 70 ∧ ch.size ≤ 1000) = true)) (FW : Hid ((S 0).length ≤ 70 ∧ (S 1).length ≤ 70 ∧ ch.size ≤ 1000)) (F2 : Hid (decide ((S' 0).length ≤ 70 ∧ (S' 1).length ≤ 70 ∧ ch'.size ≤ 1000) = true)) (f3' : ¬ (70000 : Int) < (raw.size : Int)) (FB : Hid (IsB false (FitS S L fair))) (SB : Hid (IsB true (SameS S ch L fair S' ch' L' fair'))) :
    Calls Try.prog 6 #[skyV D ch L fair, skyV D' ch' L' fair', .int .i64 to, .int .i64 at_, .string raw] w fun e w' => e = .returned (.bool true) ∧ Below w.heap.size w w' := by
  unfold skyV
  go_enter Try.func6, Try.ntmps6
  go_wp2_with (first
      | (go_at_call 7
         refine Calls.mono (few_any _ _ _ _ _ _ (by first | exact e0.out | exact e0'.out) (by first | exact e1.out | exact e1'.out)) ?_
         first
           | (rintro e w1 ⟨rfl, hb⟩
              rw [F1.out]
              have S1 : Hid (Below w.heap.size w w1) := Lib.hid (bel (by go_grown) hb)
              have Ts1 : Hid (SkyAt w1 w.heap.size D ch L fair) := Lib.hid (((SkyAt.new w D ch L fair 27).alloc (.cells #[D' 0, D' 1, .string ch', .int .i64 (L' 0), .int .i64 (L' 1), .int .i64 (L' 2), .int .i64 (L' 3), .int .i64 (L' 4), .int .i64 (L' 5), .int .i64 (L' 6), .int .i64 (L' 7), .int .i64 fair'] 27)).kept hb)
              have Tt1 := Lib.hid ((SkyAt.new (w.alloc (.cells #[D 0, D 1, .string ch, .int .i64 (L 0), .int .i64 (L 1), .int .i64 (L 2), .int .i64 (L 3), .int .i64 (L 4), .int .i64 (L 5), .int .i64 (L 6), .int .i64 (L 7), .int .i64 fair] 27)) D' ch' L' fair' 27).kept hb)
              rw [show (w.alloc (.cells #[D 0, D 1, .string ch, .int .i64 (L 0), .int .i64 (L 1), .int .i64 (L 2), .int .i64 (L 3), .int .i64 (L 4), .int .i64 (L 5), .int .i64 (L 6), .int .i64 (L 7), .int .i64 fair] 27)).heap.size = w.heap.size + 1 from by simp] at Tt1
              obtain ⟨s0_, s1_, s2_, s3_, s4_, s5_, s6_, s7_, s8_, s9_, s10_, s11_⟩ := Ts1.out
              obtain ⟨t0_, t1_, t2_, t3_, t4_, t5_, t6_, t7_, t8_, t9_, t10_, t11_⟩ := Tt1.out
              clear hb)
           | (rintro e w2 ⟨rfl, hb⟩
              rw [F2.out]
              have S2 : Hid (Below w1.heap.size w1 w2) := Lib.hid hb
              have Ts2 := Lib.hid (Ts1.out.kept hb)
              have Tt2 := Lib.hid (Tt1.out.kept hb)
              clear s0_ s1_ s2_ s3_ s4_ s5_ s6_ s7_ s8_ s9_ s10_ s11_ t0_ t1_ t2_ t3_ t4_ t5_ t6_ t7_ t8_ t9_ t10_ t11_
              obtain ⟨s0_, s1_, s2_, s3_, s4_, s5_, s6_, s7_, s8_, s9_, s10_, s11_⟩ := Ts2.out
              obtain ⟨t0_, t1_, t2_, t3_, t4_, t5_, t6_, t7_, t8_, t9_, t10_, t11_⟩ := Tt2.out
              clear hb)))
  have HP := Lib.hid (And.intro Ts2.out Tt2.out)
  have hS0 := keep2 HP (Lib.hid (Below.refl w2.heap.size w2).drew)
  clear s0_ s1_ s2_ s3_ s4_ s5_ s6_ s7_ s8_ s9_ s10_ s11_ t0_ t1_ t2_ t3_ t4_ t5_ t6_ t7_ t8_ t9_ t10_ t11_
  go_region_held3 (fun w' => w'.cell? ⟨w.heap.size, 0, none⟩ = some (D 0) ∧ w'.cell? ⟨w.heap.size, 1, none⟩ = some (D 1) ∧ w'.cell? ⟨w.heap.size, 2, none⟩ = some (.string ch) ∧ w'.cell? ⟨w.heap.size, 3, none⟩ = some (.int .i64 (L 0)) ∧ w'.cell? ⟨w.heap.size, 4, none⟩ = some (.int .i64 (L 1)) ∧ w'.cell? ⟨w.heap.size, 5, none⟩ = some (.int .i64 (L 2)) ∧ w'.cell? ⟨w.heap.size, 6, none⟩ = some (.int .i64 (L 3)) ∧ w'.cell? ⟨w.heap.size, 7, none⟩ = some (.int .i64 (L 4)) ∧ w'.cell? ⟨w.heap.size, 8, none⟩ = some (.int .i64 (L 5)) ∧ w'.cell? ⟨w.heap.size, 9, none⟩ = some (.int .i64 (L 6)) ∧ w'.cell? ⟨w.heap.size, 10, none⟩ = some (.int .i64 (L 7)) ∧ w'.cell? ⟨w.heap.size, 11, none⟩ = some (.int .i64 fair) ∧ w'.cell? ⟨w.heap.size + 1, 0, none⟩ = some (D' 0) ∧ w'.cell? ⟨w.heap.size + 1, 1, none⟩ = some (D' 1) ∧ w'.cell? ⟨w.heap.size + 1, 2, none⟩ = some (.string ch') ∧ w'.cell? ⟨w.heap.size + 1, 3, none⟩ = some (.int .i64 (L' 0)) ∧ w'.cell? ⟨w.heap.size + 1, 4, none⟩ = some (.int .i64 (L' 1)) ∧ w'.cell? ⟨w.heap.size + 1, 5, none⟩ = some (.int .i64 (L' 2)) ∧ w'.cell? ⟨w.heap.size + 1, 6, none⟩ = some (.int .i64 (L' 3)) ∧ w'.cell? ⟨w.heap.size + 1, 7, none⟩ = some (.int .i64 (L' 4)) ∧ w'.cell? ⟨w.heap.size + 1, 8, none⟩ = some (.int .i64 (L' 5)) ∧ w'.cell? ⟨w.heap.size + 1, 9, none⟩ = some (.int .i64 (L' 6)) ∧ w'.cell? ⟨w.heap.size + 1, 10, none⟩ = some (.int .i64 (L' 7)) ∧ w'.cell? ⟨w.heap.size + 1, 11, none⟩ = some (.int .i64 fair') ∧ Hid (Below w2.heap.size w2 w'))
    (first
      | exact hS0
      | (go_split_ands; exact keep2 HP (Lib.hid (bel (Hid.out ‹Hid (Below w2.heap.size w2 _)›) ‹_›))))
    (first
      | (go_at_call 12
         go_split_ands
         refine Calls.mono (nfit_any D S ch L fair _ (KS.out _ (bel (bel S1.out S2.out) (Hid.out ‹Hid (Below w2.heap.size w2 _)›))).1 (KS.out _ (bel (bel S1.out S2.out) (Hid.out ‹Hid (Below w2.heap.size w2 _)›))).2 (by have := FW.out; omega) (by have := FW.out; omega) (HZ.out 0 (by omega)) (HZ.out 1 (by omega))) ?_
         rintro e w3 ⟨b, rfl, hbb, hb⟩
         obtain rfl := iff_bool hbb FB.out
         clear hbb)
      | (go_at_call 8
         go_split_ands
         refine Calls.mono (rfit_any D S ch L fair _ (KS.out _ (bel (bel S1.out S2.out) (Hid.out ‹Hid (Below w2.heap.size w2 _)›))).1 (KS.out _ (bel (bel S1.out S2.out) (Hid.out ‹Hid (Below w2.heap.size w2 _)›))).2 (by have := FW.out; omega) (by have := FW.out; omega)) ?_
         rintro e w4 ⟨b, rfl, hbb, hb⟩
         obtain rfl := iff_bool hbb FB.out
         clear hbb)
      | (go_at_call 13
         go_split_ands
         refine Calls.mono (nsame_any _ _ _ _ _ _ _ _ _ _ _ (KS.out _ (bel (bel S1.out S2.out) (Hid.out ‹Hid (Below w2.heap.size w2 _)›))).1 (KS.out _ (bel (bel S1.out S2.out) (Hid.out ‹Hid (Below w2.heap.size w2 _)›))).2 (by first | exact (KS.out _ (bel (bel S1.out S2.out) (Hid.out ‹Hid (Below w2.heap.size w2 _)›))).1 | exact (KT.out _ (bel (bel S1.out S2.out) (Hid.out ‹Hid (Below w2.heap.size w2 _)›))).1) (by first | exact (KS.out _ (bel (bel S1.out S2.out) (Hid.out ‹Hid (Below w2.heap.size w2 _)›))).2 | exact (KT.out _ (bel (bel S1.out S2.out) (Hid.out ‹Hid (Below w2.heap.size w2 _)›))).2)) ?_
         first
           | (rintro e w5 ⟨b, rfl, hbb, hb⟩
              obtain rfl := iff_bool hbb SB.out
              clear hbb)
           | (rintro e w7 ⟨b, rfl, hbb, hb⟩
              obtain rfl := hbb.2 ⟨rfl, fun _ _ => rfl, rfl, rfl, rfl⟩
              clear hbb))
      | (go_at_call 14
         go_split_ands
         refine Calls.mono (rsame_any D D' S S' ch ch' L L' fair fair' _ (KS.out _ (bel (bel S1.out S2.out) (Hid.out ‹Hid (Below w2.heap.size w2 _)›))).1 (KS.out _ (bel (bel S1.out S2.out) (Hid.out ‹Hid (Below w2.heap.size w2 _)›))).2 (KT.out _ (bel (bel S1.out S2.out) (Hid.out ‹Hid (Below w2.heap.size w2 _)›))).1 (KT.out _ (bel (bel S1.out S2.out) (Hid.out ‹Hid (Below w2.heap.size w2 _)›))).2) ?_
         rintro e w6 ⟨b, rfl, hbb, hb⟩
         obtain rfl := iff_bool hbb SB.out
         clear hbb))
  rename w7.cell? _ = _ ∧ _ => hPg
  rename w2.drew.cell? _ = _ ∧ _ => hP0
  clear hP0
  obtain ⟨s0_, s1_, s2_, s3_, s4_, s5_, s6_, s7_, s8_, s9_, s10_, s11_, t0_, t1_, t2_, t3_, t4_, t5_, t6_, t7_, t8_, t9_, t10_, t11_, hBg⟩ := hPg
  have S7 := hBg
  have Ts7 : Hid (SkyAt w7 w.heap.size D ch L fair) := Lib.hid ⟨s0_, s1_, s2_, s3_, s4_, s5_, s6_, s7_, s8_, s9_, s10_, s11_⟩
  clear hBg HP t0_ t1_ t2_ t3_ t4_ t5_ t6_ t7_ t8_ t9_ t10_ t11_
  go_wp2_with (first
      | (go_at_call 8
         refine Calls.mono (rfit_any D S ch L fair _ (KS.out _ (by repeat (first | exact Below.refl _ _ | refine bel ?_ S1.out | refine bel ?_ S2.out | refine bel ?_ S3.out | refine bel ?_ S4.out | refine bel ?_ S5.out | refine bel ?_ S6.out | refine bel ?_ S7.out | refine bel ?_ S8.out | refine bel ?_ S9.out | refine bel ?_ S10.out | refine bel ?_ S11.out | refine bel ?_ S12.out | refine bel ?_ S13.out | refine bel ?_ S14.out | refine bel ?_ S15.out | refine bel ?_ S16.out | refine bel ?_ S17.out | refine bel ?_ ((Below.refl _ _).alloc (Nat.le_refl _) _)))).1 (KS.out _ (by repeat (first | exact Below.refl _ _ | refine bel ?_ S1.out | refine bel ?_ S2.out | refine bel ?_ S3.out | refine bel ?_ S4.out | refine bel ?_ S5.out | refine bel ?_ S6.out | refine bel ?_ S7.out | refine bel ?_ S8.out | refine bel ?_ S9.out | refine bel ?_ S10.out | refine bel ?_ S11.out | refine bel ?_ S12.out | refine bel ?_ S13.out | refine bel ?_ S14.out | refine bel ?_ S15.out | refine bel ?_ S16.out | refine bel ?_ S17.out | refine bel ?_ ((Below.refl _ _).alloc (Nat.le_refl _) _)))).2 (by have := FW.out; omega) (by have := FW.out; omega)) ?_
         rintro e w8 ⟨b, rfl, hbb, hb⟩
         obtain rfl := iff_bool hbb FB.out
         have S8 : Hid (Below w7.heap.size w7 w8) := Lib.hid hb
         have Ts8 := Lib.hid (Ts7.out.kept hb)
         clear s0_ s1_ s2_ s3_ s4_ s5_ s6_ s7_ s8_ s9_ s10_ s11_
         obtain ⟨s0_, s1_, s2_, s3_, s4_, s5_, s6_, s7_, s8_, s9_, s10_, s11_⟩ := Ts8.out
         clear hbb hb)
      | (go_at_call 9
         refine Calls.mono (awake_any _) ?_
         rintro e w17 ⟨rfl, hb⟩
         have S17 := Lib.hid hb
         clear hb))
  go_ret
  exact ⟨rfl, by repeat (first | exact Below.refl _ _ | refine bel ?_ S1.out | refine bel ?_ S2.out | refine bel ?_ S3.out | refine bel ?_ S4.out | refine bel ?_ S5.out | refine bel ?_ S6.out | refine bel ?_ S7.out | refine bel ?_ S8.out | refine bel ?_ S9.out | refine bel ?_ S10.out | refine bel ?_ S11.out | refine bel ?_ S12.out | refine bel ?_ S13.out | refine bel ?_ S14.out | refine bel ?_ S15.out | refine bel ?_ S16.out | refine bel ?_ S17.out | refine bel ?_ ((Below.refl _ _).alloc (Nat.le_refl _) _))⟩

set_option maxHeartbeats 4000000 in
theorem does_no_false (D D' : Nat → Value) (S S' : Nat → List ByteArray) (ch ch' raw : ByteArray) (L L' : Nat → Int) (fair fair' to at_ : Int) (w : World) (hch : ch.size ≤ 9223372036854775807) (hch' : ch'.size ≤ 9223372036854775807) (hraw : raw.size ≤ 9223372036854775807)
    (KS : Hid (∀ W, Below w.heap.size w W → SkyP W D S)) (KT : Hid (∀ W, Below w.heap.size w W → SkyP W D' S')) (HZ : Hid (∀ i, i < 2 → ∀ x ∈ S i, x.size ≤ 9223372036854775807))
    (e0 : Hid (∃ A c, D 0 = .slice A (S 0).length c)) (e1 : Hid (∃ A c, D 1 = .slice A (S 1).length c)) (e0' : Hid (∃ A c, D' 0 = .slice A (S' 0).length c)) (e1' : Hid (∃ A c, D' 1 = .slice A (S' 1).length c))
    (F1 : Hid (decide ((S 0).length ≤ 70 ∧ (S 1).length ≤ 70 ∧ ch.size ≤ 1000) = true)) (FW : Hid ((S 0).length ≤ 70 ∧ (S 1).length ≤ 70 ∧ ch.size ≤ 1000)) (F2 : Hid (decide ((S' 0).length ≤ 70 ∧ (S' 1).length ≤ 70 ∧ ch'.size ≤ 1000) = true)) (f3' : ¬ (70000 : Int) < (raw.size : Int)) (FB : Hid (IsB false (FitS S L fair))) (SB : Hid (IsB false (SameS S ch L fair S' ch' L' fair'))) :
    Calls Try.prog 6 #[skyV D ch L fair, skyV D' ch' L' fair', .int .i64 to, .int .i64 at_, .string raw] w fun e w' => e = .returned (.bool true) ∧ Below w.heap.size w w' := by
  unfold skyV
  go_enter Try.func6, Try.ntmps6
  go_wp2_with (first
      | (go_at_call 7
         refine Calls.mono (few_any _ _ _ _ _ _ (by first | exact e0.out | exact e0'.out) (by first | exact e1.out | exact e1'.out)) ?_
         first
           | (rintro e w1 ⟨rfl, hb⟩
              rw [F1.out]
              have S1 : Hid (Below w.heap.size w w1) := Lib.hid (bel (by go_grown) hb)
              have Ts1 : Hid (SkyAt w1 w.heap.size D ch L fair) := Lib.hid (((SkyAt.new w D ch L fair 27).alloc (.cells #[D' 0, D' 1, .string ch', .int .i64 (L' 0), .int .i64 (L' 1), .int .i64 (L' 2), .int .i64 (L' 3), .int .i64 (L' 4), .int .i64 (L' 5), .int .i64 (L' 6), .int .i64 (L' 7), .int .i64 fair'] 27)).kept hb)
              have Tt1 := Lib.hid ((SkyAt.new (w.alloc (.cells #[D 0, D 1, .string ch, .int .i64 (L 0), .int .i64 (L 1), .int .i64 (L 2), .int .i64 (L 3), .int .i64 (L 4), .int .i64 (L 5), .int .i64 (L 6), .int .i64 (L 7), .int .i64 fair] 27)) D' ch' L' fair' 27).kept hb)
              rw [show (w.alloc (.cells #[D 0, D 1, .string ch, .int .i64 (L 0), .int .i64 (L 1), .int .i64 (L 2), .int .i64 (L 3), .int .i64 (L 4), .int .i64 (L 5), .int .i64 (L 6), .int .i64 (L 7), .int .i64 fair] 27)).heap.size = w.heap.size + 1 from by simp] at Tt1
              obtain ⟨s0_, s1_, s2_, s3_, s4_, s5_, s6_, s7_, s8_, s9_, s10_, s11_⟩ := Ts1.out
              obtain ⟨t0_, t1_, t2_, t3_, t4_, t5_, t6_, t7_, t8_, t9_, t10_, t11_⟩ := Tt1.out
              clear hb)
           | (rintro e w2 ⟨rfl, hb⟩
              rw [F2.out]
              have S2 : Hid (Below w1.heap.size w1 w2) := Lib.hid hb
              have Ts2 := Lib.hid (Ts1.out.kept hb)
              have Tt2 := Lib.hid (Tt1.out.kept hb)
              clear s0_ s1_ s2_ s3_ s4_ s5_ s6_ s7_ s8_ s9_ s10_ s11_ t0_ t1_ t2_ t3_ t4_ t5_ t6_ t7_ t8_ t9_ t10_ t11_
              obtain ⟨s0_, s1_, s2_, s3_, s4_, s5_, s6_, s7_, s8_, s9_, s10_, s11_⟩ := Ts2.out
              obtain ⟨t0_, t1_, t2_, t3_, t4_, t5_, t6_, t7_, t8_, t9_, t10_, t11_⟩ := Tt2.out
              clear hb)))
  have HP := Lib.hid (And.intro Ts2.out Tt2.out)
  have hS0 := keep2 HP (Lib.hid (Below.refl w2.heap.size w2).drew)
  clear s0_ s1_ s2_ s3_ s4_ s5_ s6_ s7_ s8_ s9_ s10_ s11_ t0_ t1_ t2_ t3_ t4_ t5_ t6_ t7_ t8_ t9_ t10_ t11_
  go_region_held3 (fun w' => w'.cell? ⟨w.heap.size, 0, none⟩ = some (D 0) ∧ w'.cell? ⟨w.heap.size, 1, none⟩ = some (D 1) ∧ w'.cell? ⟨w.heap.size, 2, none⟩ = some (.string ch) ∧ w'.cell? ⟨w.heap.size, 3, none⟩ = some (.int .i64 (L 0)) ∧ w'.cell? ⟨w.heap.size, 4, none⟩ = some (.int .i64 (L 1)) ∧ w'.cell? ⟨w.heap.size, 5, none⟩ = some (.int .i64 (L 2)) ∧ w'.cell? ⟨w.heap.size, 6, none⟩ = some (.int .i64 (L 3)) ∧ w'.cell? ⟨w.heap.size, 7, none⟩ = some (.int .i64 (L 4)) ∧ w'.cell? ⟨w.heap.size, 8, none⟩ = some (.int .i64 (L 5)) ∧ w'.cell? ⟨w.heap.size, 9, none⟩ = some (.int .i64 (L 6)) ∧ w'.cell? ⟨w.heap.size, 10, none⟩ = some (.int .i64 (L 7)) ∧ w'.cell? ⟨w.heap.size, 11, none⟩ = some (.int .i64 fair) ∧ w'.cell? ⟨w.heap.size + 1, 0, none⟩ = some (D' 0) ∧ w'.cell? ⟨w.heap.size + 1, 1, none⟩ = some (D' 1) ∧ w'.cell? ⟨w.heap.size + 1, 2, none⟩ = some (.string ch') ∧ w'.cell? ⟨w.heap.size + 1, 3, none⟩ = some (.int .i64 (L' 0)) ∧ w'.cell? ⟨w.heap.size + 1, 4, none⟩ = some (.int .i64 (L' 1)) ∧ w'.cell? ⟨w.heap.size + 1, 5, none⟩ = some (.int .i64 (L' 2)) ∧ w'.cell? ⟨w.heap.size + 1, 6, none⟩ = some (.int .i64 (L' 3)) ∧ w'.cell? ⟨w.heap.size + 1, 7, none⟩ = some (.int .i64 (L' 4)) ∧ w'.cell? ⟨w.heap.size + 1, 8, none⟩ = some (.int .i64 (L' 5)) ∧ w'.cell? ⟨w.heap.size + 1, 9, none⟩ = some (.int .i64 (L' 6)) ∧ w'.cell? ⟨w.heap.size + 1, 10, none⟩ = some (.int .i64 (L' 7)) ∧ w'.cell? ⟨w.heap.size + 1, 11, none⟩ = some (.int .i64 fair') ∧ Hid (Below w2.heap.size w2 w'))
    (first
      | exact hS0
      | (go_split_ands; exact keep2 HP (Lib.hid (bel (Hid.out ‹Hid (Below w2.heap.size w2 _)›) ‹_›))))
    (first
      | (go_at_call 12
         go_split_ands
         refine Calls.mono (nfit_any D S ch L fair _ (KS.out _ (bel (bel S1.out S2.out) (Hid.out ‹Hid (Below w2.heap.size w2 _)›))).1 (KS.out _ (bel (bel S1.out S2.out) (Hid.out ‹Hid (Below w2.heap.size w2 _)›))).2 (by have := FW.out; omega) (by have := FW.out; omega) (HZ.out 0 (by omega)) (HZ.out 1 (by omega))) ?_
         rintro e w3 ⟨b, rfl, hbb, hb⟩
         obtain rfl := iff_bool hbb FB.out
         clear hbb)
      | (go_at_call 8
         go_split_ands
         refine Calls.mono (rfit_any D S ch L fair _ (KS.out _ (bel (bel S1.out S2.out) (Hid.out ‹Hid (Below w2.heap.size w2 _)›))).1 (KS.out _ (bel (bel S1.out S2.out) (Hid.out ‹Hid (Below w2.heap.size w2 _)›))).2 (by have := FW.out; omega) (by have := FW.out; omega)) ?_
         rintro e w4 ⟨b, rfl, hbb, hb⟩
         obtain rfl := iff_bool hbb FB.out
         clear hbb)
      | (go_at_call 13
         go_split_ands
         refine Calls.mono (nsame_any _ _ _ _ _ _ _ _ _ _ _ (KS.out _ (bel (bel S1.out S2.out) (Hid.out ‹Hid (Below w2.heap.size w2 _)›))).1 (KS.out _ (bel (bel S1.out S2.out) (Hid.out ‹Hid (Below w2.heap.size w2 _)›))).2 (by first | exact (KS.out _ (bel (bel S1.out S2.out) (Hid.out ‹Hid (Below w2.heap.size w2 _)›))).1 | exact (KT.out _ (bel (bel S1.out S2.out) (Hid.out ‹Hid (Below w2.heap.size w2 _)›))).1) (by first | exact (KS.out _ (bel (bel S1.out S2.out) (Hid.out ‹Hid (Below w2.heap.size w2 _)›))).2 | exact (KT.out _ (bel (bel S1.out S2.out) (Hid.out ‹Hid (Below w2.heap.size w2 _)›))).2)) ?_
         first
           | (rintro e w5 ⟨b, rfl, hbb, hb⟩
              obtain rfl := iff_bool hbb SB.out
              clear hbb)
           | (rintro e w7 ⟨b, rfl, hbb, hb⟩
              obtain rfl := hbb.2 ⟨rfl, fun _ _ => rfl, rfl, rfl, rfl⟩
              clear hbb))
      | (go_at_call 14
         go_split_ands
         refine Calls.mono (rsame_any D D' S S' ch ch' L L' fair fair' _ (KS.out _ (bel (bel S1.out S2.out) (Hid.out ‹Hid (Below w2.heap.size w2 _)›))).1 (KS.out _ (bel (bel S1.out S2.out) (Hid.out ‹Hid (Below w2.heap.size w2 _)›))).2 (KT.out _ (bel (bel S1.out S2.out) (Hid.out ‹Hid (Below w2.heap.size w2 _)›))).1 (KT.out _ (bel (bel S1.out S2.out) (Hid.out ‹Hid (Below w2.heap.size w2 _)›))).2) ?_
         rintro e w6 ⟨b, rfl, hbb, hb⟩
         obtain rfl := iff_bool hbb SB.out
         clear hbb))
  rename w7.cell? _ = _ ∧ _ => hPg
  rename w2.drew.cell? _ = _ ∧ _ => hP0
  clear hP0
  obtain ⟨s0_, s1_, s2_, s3_, s4_, s5_, s6_, s7_, s8_, s9_, s10_, s11_, t0_, t1_, t2_, t3_, t4_, t5_, t6_, t7_, t8_, t9_, t10_, t11_, hBg⟩ := hPg
  have S7 := hBg
  have Ts7 : Hid (SkyAt w7 w.heap.size D ch L fair) := Lib.hid ⟨s0_, s1_, s2_, s3_, s4_, s5_, s6_, s7_, s8_, s9_, s10_, s11_⟩
  clear hBg HP t0_ t1_ t2_ t3_ t4_ t5_ t6_ t7_ t8_ t9_ t10_ t11_
  go_wp2_with (first
      | (go_at_call 8
         refine Calls.mono (rfit_any D S ch L fair _ (KS.out _ (by repeat (first | exact Below.refl _ _ | refine bel ?_ S1.out | refine bel ?_ S2.out | refine bel ?_ S3.out | refine bel ?_ S4.out | refine bel ?_ S5.out | refine bel ?_ S6.out | refine bel ?_ S7.out | refine bel ?_ S8.out | refine bel ?_ S9.out | refine bel ?_ S10.out | refine bel ?_ S11.out | refine bel ?_ S12.out | refine bel ?_ S13.out | refine bel ?_ S14.out | refine bel ?_ S15.out | refine bel ?_ S16.out | refine bel ?_ S17.out | refine bel ?_ ((Below.refl _ _).alloc (Nat.le_refl _) _)))).1 (KS.out _ (by repeat (first | exact Below.refl _ _ | refine bel ?_ S1.out | refine bel ?_ S2.out | refine bel ?_ S3.out | refine bel ?_ S4.out | refine bel ?_ S5.out | refine bel ?_ S6.out | refine bel ?_ S7.out | refine bel ?_ S8.out | refine bel ?_ S9.out | refine bel ?_ S10.out | refine bel ?_ S11.out | refine bel ?_ S12.out | refine bel ?_ S13.out | refine bel ?_ S14.out | refine bel ?_ S15.out | refine bel ?_ S16.out | refine bel ?_ S17.out | refine bel ?_ ((Below.refl _ _).alloc (Nat.le_refl _) _)))).2 (by have := FW.out; omega) (by have := FW.out; omega)) ?_
         rintro e w8 ⟨b, rfl, hbb, hb⟩
         obtain rfl := iff_bool hbb FB.out
         have S8 : Hid (Below w7.heap.size w7 w8) := Lib.hid hb
         have Ts8 := Lib.hid (Ts7.out.kept hb)
         clear s0_ s1_ s2_ s3_ s4_ s5_ s6_ s7_ s8_ s9_ s10_ s11_
         obtain ⟨s0_, s1_, s2_, s3_, s4_, s5_, s6_, s7_, s8_, s9_, s10_, s11_⟩ := Ts8.out
         clear hbb hb)
      | (go_at_call 9
         refine Calls.mono (awake_any _) ?_
         rintro e w17 ⟨rfl, hb⟩
         have S17 := Lib.hid hb
         clear hb))
  go_ret
  exact ⟨rfl, by repeat (first | exact Below.refl _ _ | refine bel ?_ S1.out | refine bel ?_ S2.out | refine bel ?_ S3.out | refine bel ?_ S4.out | refine bel ?_ S5.out | refine bel ?_ S6.out | refine bel ?_ S7.out | refine bel ?_ S8.out | refine bel ?_ S9.out | refine bel ?_ S10.out | refine bel ?_ S11.out | refine bel ?_ S12.out | refine bel ?_ S13.out | refine bel ?_ S14.out | refine bel ?_ S15.out | refine bel ?_ S16.out | refine bel ?_ S17.out | refine bel ?_ ((Below.refl _ _).alloc (Nat.le_refl _) _))⟩

end Go.Proofs.Ytgllojpeggmleaa
