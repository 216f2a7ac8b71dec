/-
  THE WALK OF NetDoes: a fit sky.
-/
import Derived.Test.YtgllojpeggmleaaNDoesA
namespace Go.Proofs.Ytgllojpeggmleaa
open Go.RowKit Go.Proofs.Mem
set_option linter.unusedVariables false

set_option maxHeartbeats 4000000 in
theorem does_yes_false (D D' : Nat → Value) (S S' : Nat → List ByteArray) (ch ch' raw : ByteArray) (L L' : Nat → Int) (fair fair' to at_ : Int) (w : World) (hch : ch.size ≤ 9223372036854775807) (hch' : ch'.size ≤ 9223372036854775807) (hraw : raw.size ≤ 9223372036854775807)
    (KS : Hid (∀ W, Below w.heap.size w W → SkyP W D S)) (KT : Hid (∀ W, Below w.heap.size w W → SkyP W D' S')) (HZ : Hid (∀ i, i < 2 → ∀ x ∈ S i, x.size ≤ 9223372036854775807))
    (e0 : Hid (∃ A c, D 0 = .slice A (S 0).length c)) (e1 : Hid (∃ A c, D 1 = .slice A (S 1).length c)) (e0' : Hid (∃ A c, D' 0 = .slice A (S' 0).length c)) (e1' : Hid (∃ A c, D' 1 = .slice A (S' 1).length c))
    (F1 : Hid (decide ((S 0).length ≤ 70 ∧ (S 1).length ≤ 70 ∧ ch.size ≤ 1000) = true)) (FW : Hid ((S 0).length ≤ 70 ∧ (S 1).length ≤ 70 ∧ ch.size ≤ 1000)) (F2 : Hid (decide ((S' 0).length ≤ 70 ∧ (S' 1).length ≤ 70 ∧ ch'.size ≤ 1000) = true)) (f3' : ¬ (70000 : Int) < (raw.size : Int)) (FB : Hid (IsB true (FitS S L fair))) (SB : Hid (IsB false (SameS S ch L fair S' ch' L' fair'))) :
    Calls Try.prog 6 #[skyV D ch L fair, skyV D' ch' L' fair', .int .i64 to, .int .i64 at_, .string raw] w fun e w' => e = .returned (.bool true) ∧ Below w.heap.size w w' := by
  unfold skyV
  have HFS : Hid (FitS S L fair) := Lib.hid (FB.out.1 rfl)
  have FA : Hid (FitS (postS S ch L fair to at_ raw) (postLs ch L fair to at_ raw) fair) := Lib.hid (post_fit HFS.out)
  have FP : Hid (FitS (pullS S to) L fair) := Lib.hid (pull_fit HFS.out)
  go_enter Try.func6, Try.ntmps6
  go_wp2_with (first
      | (go_at_call 7
         refine Calls.mono (few_any _ _ _ _ _ _ (by first | exact e0.out | exact e0'.out) (by first | exact e1.out | exact e1'.out)) ?_
         first
           | (rintro e w1 ⟨rfl, hb⟩
              rw [F1.out]
              have S1 : Hid (Below w.heap.size w w1) := Lib.hid (bel (by go_grown) hb)
              have Ts1 : Hid (SkyAt w1 w.heap.size D ch L fair) := Lib.hid (((SkyAt.new w D ch L fair 27).alloc (.cells #[D' 0, D' 1, .string ch', .int .i64 (L' 0), .int .i64 (L' 1), .int .i64 (L' 2), .int .i64 (L' 3), .int .i64 (L' 4), .int .i64 (L' 5), .int .i64 (L' 6), .int .i64 (L' 7), .int .i64 fair'] 27)).kept hb)
              have Tt1 := Lib.hid ((SkyAt.new (w.alloc (.cells #[D 0, D 1, .string ch, .int .i64 (L 0), .int .i64 (L 1), .int .i64 (L 2), .int .i64 (L 3), .int .i64 (L 4), .int .i64 (L 5), .int .i64 (L 6), .int .i64 (L 7), .int .i64 fair] 27)) D' ch' L' fair' 27).kept hb)
              rw [show (w.alloc (.cells #[D 0, D 1, .string ch, .int .i64 (L 0), .int .i64 (L 1), .int .i64 (L 2), .int .i64 (L 3), .int .i64 (L 4), .int .i64 (L 5), .int .i64 (L 6), .int .i64 (L 7), .int .i64 fair] 27)).heap.size = w.heap.size + 1 from by simp] at Tt1
              obtain ⟨s0_, s1_, s2_, s3_, s4_, s5_, s6_, s7_, s8_, s9_, s10_, s11_⟩ := Ts1.out
              obtain ⟨t0_, t1_, t2_, t3_, t4_, t5_, t6_, t7_, t8_, t9_, t10_, t11_⟩ := Tt1.out
              clear hb)
           | (rintro e w2 ⟨rfl, hb⟩
              rw [F2.out]
              have S2 : Hid (Below w1.heap.size w1 w2) := Lib.hid hb
              have Ts2 := Lib.hid (Ts1.out.kept hb)
              have Tt2 := Lib.hid (Tt1.out.kept hb)
              clear s0_ s1_ s2_ s3_ s4_ s5_ s6_ s7_ s8_ s9_ s10_ s11_ t0_ t1_ t2_ t3_ t4_ t5_ t6_ t7_ t8_ t9_ t10_ t11_
              obtain ⟨s0_, s1_, s2_, s3_, s4_, s5_, s6_, s7_, s8_, s9_, s10_, s11_⟩ := Ts2.out
              obtain ⟨t0_, t1_, t2_, t3_, t4_, t5_, t6_, t7_, t8_, t9_, t10_, t11_⟩ := Tt2.out
              clear hb)))
  have HP := Lib.hid (And.intro Ts2.out Tt2.out)
  have hS0 := keep2 HP (Lib.hid (Below.refl w2.heap.size w2).drew)
  clear s0_ s1_ s2_ s3_ s4_ s5_ s6_ s7_ s8_ s9_ s10_ s11_ t0_ t1_ t2_ t3_ t4_ t5_ t6_ t7_ t8_ t9_ t10_ t11_
  go_region_held3 (fun w' => w'.cell? ⟨w.heap.size, 0, none⟩ = some (D 0) ∧ w'.cell? ⟨w.heap.size, 1, none⟩ = some (D 1) ∧ w'.cell? ⟨w.heap.size, 2, none⟩ = some (.string ch) ∧ w'.cell? ⟨w.heap.size, 3, none⟩ = some (.int .i64 (L 0)) ∧ w'.cell? ⟨w.heap.size, 4, none⟩ = some (.int .i64 (L 1)) ∧ w'.cell? ⟨w.heap.size, 5, none⟩ = some (.int .i64 (L 2)) ∧ w'.cell? ⟨w.heap.size, 6, none⟩ = some (.int .i64 (L 3)) ∧ w'.cell? ⟨w.heap.size, 7, none⟩ = some (.int .i64 (L 4)) ∧ w'.cell? ⟨w.heap.size, 8, none⟩ = some (.int .i64 (L 5)) ∧ w'.cell? ⟨w.heap.size, 9, none⟩ = some (.int .i64 (L 6)) ∧ w'.cell? ⟨w.heap.size, 10, none⟩ = some (.int .i64 (L 7)) ∧ w'.cell? ⟨w.heap.size, 11, none⟩ = some (.int .i64 fair) ∧ w'.cell? ⟨w.heap.size + 1, 0, none⟩ = some (D' 0) ∧ w'.cell? ⟨w.heap.size + 1, 1, none⟩ = some (D' 1) ∧ w'.cell? ⟨w.heap.size + 1, 2, none⟩ = some (.string ch') ∧ w'.cell? ⟨w.heap.size + 1, 3, none⟩ = some (.int .i64 (L' 0)) ∧ w'.cell? ⟨w.heap.size + 1, 4, none⟩ = some (.int .i64 (L' 1)) ∧ w'.cell? ⟨w.heap.size + 1, 5, none⟩ = some (.int .i64 (L' 2)) ∧ w'.cell? ⟨w.heap.size + 1, 6, none⟩ = some (.int .i64 (L' 3)) ∧ w'.cell? ⟨w.heap.size + 1, 7, none⟩ = some (.int .i64 (L' 4)) ∧ w'.cell? ⟨w.heap.size + 1, 8, none⟩ = some (.int .i64 (L' 5)) ∧ w'.cell? ⟨w.heap.size + 1, 9, none⟩ = some (.int .i64 (L' 6)) ∧ w'.cell? ⟨w.heap.size + 1, 10, none⟩ = some (.int .i64 (L' 7)) ∧ w'.cell? ⟨w.heap.size + 1, 11, none⟩ = some (.int .i64 fair') ∧ Hid (Below w2.heap.size w2 w'))
    (first
      | exact hS0
      | (go_split_ands; exact keep2 HP (Lib.hid (bel (Hid.out ‹Hid (Below w2.heap.size w2 _)›) ‹_›))))
    (first
      | (go_at_call 12
         go_split_ands
         refine Calls.mono (nfit_any D S ch L fair _ (KS.out _ (bel (bel S1.out S2.out) (Hid.out ‹Hid (Below w2.heap.size w2 _)›))).1 (KS.out _ (bel (bel S1.out S2.out) (Hid.out ‹Hid (Below w2.heap.size w2 _)›))).2 (by have := FW.out; omega) (by have := FW.out; omega) (HZ.out 0 (by omega)) (HZ.out 1 (by omega))) ?_
         rintro e w3 ⟨b, rfl, hbb, hb⟩
         obtain rfl := iff_bool hbb FB.out
         clear hbb)
      | (go_at_call 8
         go_split_ands
         refine Calls.mono (rfit_any D S ch L fair _ (KS.out _ (bel (bel S1.out S2.out) (Hid.out ‹Hid (Below w2.heap.size w2 _)›))).1 (KS.out _ (bel (bel S1.out S2.out) (Hid.out ‹Hid (Below w2.heap.size w2 _)›))).2 (by have := FW.out; omega) (by have := FW.out; omega)) ?_
         rintro e w4 ⟨b, rfl, hbb, hb⟩
         obtain rfl := iff_bool hbb FB.out
         clear hbb)
      | (go_at_call 13
         go_split_ands
         refine Calls.mono (nsame_any _ _ _ _ _ _ _ _ _ _ _ (KS.out _ (bel (bel S1.out S2.out) (Hid.out ‹Hid (Below w2.heap.size w2 _)›))).1 (KS.out _ (bel (bel S1.out S2.out) (Hid.out ‹Hid (Below w2.heap.size w2 _)›))).2 (by first | exact (KS.out _ (bel (bel S1.out S2.out) (Hid.out ‹Hid (Below w2.heap.size w2 _)›))).1 | exact (KT.out _ (bel (bel S1.out S2.out) (Hid.out ‹Hid (Below w2.heap.size w2 _)›))).1) (by first | exact (KS.out _ (bel (bel S1.out S2.out) (Hid.out ‹Hid (Below w2.heap.size w2 _)›))).2 | exact (KT.out _ (bel (bel S1.out S2.out) (Hid.out ‹Hid (Below w2.heap.size w2 _)›))).2)) ?_
         first
           | (rintro e w5 ⟨b, rfl, hbb, hb⟩
              obtain rfl := iff_bool hbb SB.out
              clear hbb)
           | (rintro e w7 ⟨b, rfl, hbb, hb⟩
              obtain rfl := hbb.2 ⟨rfl, fun _ _ => rfl, rfl, rfl, rfl⟩
              clear hbb))
      | (go_at_call 14
         go_split_ands
         refine Calls.mono (rsame_any D D' S S' ch ch' L L' fair fair' _ (KS.out _ (bel (bel S1.out S2.out) (Hid.out ‹Hid (Below w2.heap.size w2 _)›))).1 (KS.out _ (bel (bel S1.out S2.out) (Hid.out ‹Hid (Below w2.heap.size w2 _)›))).2 (KT.out _ (bel (bel S1.out S2.out) (Hid.out ‹Hid (Below w2.heap.size w2 _)›))).1 (KT.out _ (bel (bel S1.out S2.out) (Hid.out ‹Hid (Below w2.heap.size w2 _)›))).2) ?_
         rintro e w6 ⟨b, rfl, hbb, hb⟩
         obtain rfl := iff_bool hbb SB.out
         clear hbb))
  rename w7.cell? _ = _ ∧ _ => hPg
  rename w2.drew.cell? _ = _ ∧ _ => hP0
  clear hP0
  obtain ⟨s0_, s1_, s2_, s3_, s4_, s5_, s6_, s7_, s8_, s9_, s10_, s11_, t0_, t1_, t2_, t3_, t4_, t5_, t6_, t7_, t8_, t9_, t10_, t11_, hBg⟩ := hPg
  have S7 := hBg
  have Ts7 : Hid (SkyAt w7 w.heap.size D ch L fair) := Lib.hid ⟨s0_, s1_, s2_, s3_, s4_, s5_, s6_, s7_, s8_, s9_, s10_, s11_⟩
  clear hBg HP t0_ t1_ t2_ t3_ t4_ t5_ t6_ t7_ t8_ t9_ t10_ t11_
  go_wp2_with (first
      | (go_at_call 8
         refine Calls.mono (rfit_any D S ch L fair _ (KS.out _ (by repeat (first | exact Below.refl _ _ | refine bel ?_ S1.out | refine bel ?_ S2.out | refine bel ?_ S3.out | refine bel ?_ S4.out | refine bel ?_ S5.out | refine bel ?_ S6.out | refine bel ?_ S7.out | refine bel ?_ S8.out | refine bel ?_ S9.out | refine bel ?_ S10.out | refine bel ?_ S11.out | refine bel ?_ S12.out | refine bel ?_ S13.out | refine bel ?_ S14.out | refine bel ?_ S15.out | refine bel ?_ S16.out | refine bel ?_ S17.out | refine bel ?_ ((Below.refl _ _).alloc (Nat.le_refl _) _)))).1 (KS.out _ (by repeat (first | exact Below.refl _ _ | refine bel ?_ S1.out | refine bel ?_ S2.out | refine bel ?_ S3.out | refine bel ?_ S4.out | refine bel ?_ S5.out | refine bel ?_ S6.out | refine bel ?_ S7.out | refine bel ?_ S8.out | refine bel ?_ S9.out | refine bel ?_ S10.out | refine bel ?_ S11.out | refine bel ?_ S12.out | refine bel ?_ S13.out | refine bel ?_ S14.out | refine bel ?_ S15.out | refine bel ?_ S16.out | refine bel ?_ S17.out | refine bel ?_ ((Below.refl _ _).alloc (Nat.le_refl _) _)))).2 (by have := FW.out; omega) (by have := FW.out; omega)) ?_
         rintro e w8 ⟨b, rfl, hbb, hb⟩
         obtain rfl := iff_bool hbb FB.out
         have S8 : Hid (Below w7.heap.size w7 w8) := Lib.hid hb
         have Ts8 := Lib.hid (Ts7.out.kept hb)
         clear s0_ s1_ s2_ s3_ s4_ s5_ s6_ s7_ s8_ s9_ s10_ s11_
         obtain ⟨s0_, s1_, s2_, s3_, s4_, s5_, s6_, s7_, s8_, s9_, s10_, s11_⟩ := Ts8.out
         clear hbb hb)
      | (go_at_call 10
         refine Calls.mono (npost_all D S ch raw L fair to at_ _ (KS.out _ (by repeat (first | exact Below.refl _ _ | refine bel ?_ S1.out | refine bel ?_ S2.out | refine bel ?_ S3.out | refine bel ?_ S4.out | refine bel ?_ S5.out | refine bel ?_ S6.out | refine bel ?_ S7.out | refine bel ?_ S8.out | refine bel ?_ S9.out | refine bel ?_ S10.out | refine bel ?_ S11.out | refine bel ?_ S12.out | refine bel ?_ S13.out | refine bel ?_ S14.out | refine bel ?_ S15.out | refine bel ?_ S16.out | refine bel ?_ S17.out | refine bel ?_ ((Below.refl _ _).alloc (Nat.le_refl _) _)))) HFS.out hch hraw) ?_
         rintro e w9 ⟨DA, rfl, hpp, hb⟩
         have S9 : Hid (Below w8.heap.size w8 w9) := Lib.hid hb
         have Ts9 := Lib.hid (Ts8.out.kept hb)
         clear s0_ s1_ s2_ s3_ s4_ s5_ s6_ s7_ s8_ s9_ s10_ s11_
         obtain ⟨s0_, s1_, s2_, s3_, s4_, s5_, s6_, s7_, s8_, s9_, s10_, s11_⟩ := Ts9.out
         have ls9 := Ts9.out.lt
         have KA : Hid (∀ W, Below w9.heap.size w9 W → SkyP W DA (postS S ch L fair to at_ raw)) := Lib.hid fun W hB => hpp.on hB
         obtain ⟨xDA0, nDA0, cDA0, eDA0⟩ := hpp.sl (i := 0) (by omega)
         obtain ⟨xDA1, nDA1, cDA1, eDA1⟩ := hpp.sl (i := 1) (by omega)
         unfold skyV
         rw [eDA0, eDA1]
         have EDA0 := Lib.hid eDA0
         have EDA1 := Lib.hid eDA1
         clear hpp hb eDA0 eDA1)
      | (go_at_call 11
         refine Calls.mono (npull_all D S ch L fair to _ (KS.out _ (by repeat (first | exact Below.refl _ _ | refine bel ?_ S1.out | refine bel ?_ S2.out | refine bel ?_ S3.out | refine bel ?_ S4.out | refine bel ?_ S5.out | refine bel ?_ S6.out | refine bel ?_ S7.out | refine bel ?_ S8.out | refine bel ?_ S9.out | refine bel ?_ S10.out | refine bel ?_ S11.out | refine bel ?_ S12.out | refine bel ?_ S13.out | refine bel ?_ S14.out | refine bel ?_ S15.out | refine bel ?_ S16.out | refine bel ?_ S17.out | refine bel ?_ ((Below.refl _ _).alloc (Nat.le_refl _) _)))) HFS.out) ?_
         rintro e w10 ⟨DB, rfl, hpp, hb⟩
         rw [← EDA0.out, ← EDA1.out] at hb
         have S10 : Hid (Below w9.heap.size w9 w10) := Lib.hid (bel (by go_grown) hb)
         have Ts10 := Lib.hid ((Ts9.out.alloc (.cells #[DA 0, DA 1, .string (postC ch to at_ raw), .int .i64 ((postLs ch L fair to at_ raw) 0), .int .i64 ((postLs ch L fair to at_ raw) 1), .int .i64 ((postLs ch L fair to at_ raw) 2), .int .i64 ((postLs ch L fair to at_ raw) 3), .int .i64 ((postLs ch L fair to at_ raw) 4), .int .i64 ((postLs ch L fair to at_ raw) 5), .int .i64 ((postLs ch L fair to at_ raw) 6), .int .i64 ((postLs ch L fair to at_ raw) 7), .int .i64 fair] 27)).kept hb)
         have Ta10 : Hid (SkyAt w10 w9.heap.size DA (postC ch to at_ raw) (postLs ch L fair to at_ raw) fair) := Lib.hid ((SkyAt.new w9 DA (postC ch to at_ raw) (postLs ch L fair to at_ raw) fair 27).kept hb)
         clear s0_ s1_ s2_ s3_ s4_ s5_ s6_ s7_ s8_ s9_ s10_ s11_
         obtain ⟨s0_, s1_, s2_, s3_, s4_, s5_, s6_, s7_, s8_, s9_, s10_, s11_⟩ := Ts10.out
         obtain ⟨a0_, a1_, a2_, a3_, a4_, a5_, a6_, a7_, a8_, a9_, a10_, a11_⟩ := Ta10.out
         have ls10 := Ts10.out.lt
         have la10 := Ta10.out.lt
         have KB : Hid (∀ W, Below w10.heap.size w10 W → SkyP W DB (pullS S to)) := Lib.hid fun W hB => hpp.on hB
         obtain ⟨xDB0, nDB0, cDB0, eDB0⟩ := hpp.sl (i := 0) (by omega)
         obtain ⟨xDB1, nDB1, cDB1, eDB1⟩ := hpp.sl (i := 1) (by omega)
         unfold skyV
         rw [eDB0, eDB1]
         have EDB0 := Lib.hid eDB0
         have EDB1 := Lib.hid eDB1
         clear hpp hb eDB0 eDB1)
      | (go_at_call 15
         refine Calls.mono (rpull_all D S ch L fair to _ (KS.out _ (by repeat (first | exact Below.refl _ _ | refine bel ?_ S1.out | refine bel ?_ S2.out | refine bel ?_ S3.out | refine bel ?_ S4.out | refine bel ?_ S5.out | refine bel ?_ S6.out | refine bel ?_ S7.out | refine bel ?_ S8.out | refine bel ?_ S9.out | refine bel ?_ S10.out | refine bel ?_ S11.out | refine bel ?_ S12.out | refine bel ?_ S13.out | refine bel ?_ S14.out | refine bel ?_ S15.out | refine bel ?_ S16.out | refine bel ?_ S17.out | refine bel ?_ ((Below.refl _ _).alloc (Nat.le_refl _) _)))) HFS.out) ?_
         rintro e w11 ⟨DC, rfl, hpp, hb⟩
         rw [← EDB0.out, ← EDB1.out] at hb
         have S11 : Hid (Below w10.heap.size w10 w11) := Lib.hid (bel (by go_grown) hb)
         have Ts11 := Lib.hid ((Ts10.out.alloc (.cells #[DB 0, DB 1, .string ch, .int .i64 (L 0), .int .i64 (L 1), .int .i64 (L 2), .int .i64 (L 3), .int .i64 (L 4), .int .i64 (L 5), .int .i64 (L 6), .int .i64 (L 7), .int .i64 fair] 27)).kept hb)
         have Ta11 := Lib.hid ((Ta10.out.alloc (.cells #[DB 0, DB 1, .string ch, .int .i64 (L 0), .int .i64 (L 1), .int .i64 (L 2), .int .i64 (L 3), .int .i64 (L 4), .int .i64 (L 5), .int .i64 (L 6), .int .i64 (L 7), .int .i64 fair] 27)).kept hb)
         have Tb11 : Hid (SkyAt w11 w10.heap.size DB ch L fair) := Lib.hid ((SkyAt.new w10 DB ch L fair 27).kept hb)
         clear s0_ s1_ s2_ s3_ s4_ s5_ s6_ s7_ s8_ s9_ s10_ s11_ a0_ a1_ a2_ a3_ a4_ a5_ a6_ a7_ a8_ a9_ a10_ a11_
         obtain ⟨s0_, s1_, s2_, s3_, s4_, s5_, s6_, s7_, s8_, s9_, s10_, s11_⟩ := Ts11.out
         obtain ⟨a0_, a1_, a2_, a3_, a4_, a5_, a6_, a7_, a8_, a9_, a10_, a11_⟩ := Ta11.out
         obtain ⟨b0_, b1_, b2_, b3_, b4_, b5_, b6_, b7_, b8_, b9_, b10_, b11_⟩ := Tb11.out
         have ls11 := Ts11.out.lt
         have la11 := Ta11.out.lt
         have lb11 := Tb11.out.lt
         have KC : Hid (∀ W, Below w11.heap.size w11 W → SkyP W DC (pullS S to)) := Lib.hid fun W hB => hpp.on hB
         obtain ⟨xDC0, nDC0, cDC0, eDC0⟩ := hpp.sl (i := 0) (by omega)
         obtain ⟨xDC1, nDC1, cDC1, eDC1⟩ := hpp.sl (i := 1) (by omega)
         unfold skyV
         rw [eDC0, eDC1]
         have EDC0 := Lib.hid eDC0
         have EDC1 := Lib.hid eDC1
         clear hpp hb eDC0 eDC1))
  rw [← EDC0.out, ← EDC1.out]
  obtain ⟨W, hW⟩ : ∃ W, W = w11.alloc (.cells #[DC 0, DC 1, .string ch, .int .i64 (L 0), .int .i64 (L 1), .int .i64 (L 2), .int .i64 (L 3), .int .i64 (L 4), .int .i64 (L 5), .int .i64 (L 6), .int .i64 (L 7), .int .i64 fair] 27) := ⟨_, rfl⟩
  rw [← hW]
  have hWB : Below w11.heap.size w11 W := by rw [hW]; exact (Below.refl _ _).alloc (Nat.le_refl _) _
  have SC := Lib.hid hWB
  have SBB : Hid (Below w10.heap.size w10 W) := Lib.hid (bel S11.out hWB)
  have SA : Hid (Below w9.heap.size w9 W) := Lib.hid (bel S10.out SBB.out)
  have SW : Hid (Below w.heap.size w W) := Lib.hid (bel (by repeat (first | exact Below.refl _ _ | refine bel ?_ S1.out | refine bel ?_ S2.out | refine bel ?_ S3.out | refine bel ?_ S4.out | refine bel ?_ S5.out | refine bel ?_ S6.out | refine bel ?_ S7.out | refine bel ?_ S8.out | refine bel ?_ S9.out | refine bel ?_ S10.out | refine bel ?_ S11.out | refine bel ?_ S12.out | refine bel ?_ S13.out | refine bel ?_ S14.out | refine bel ?_ S15.out | refine bel ?_ S16.out | refine bel ?_ S17.out | refine bel ?_ ((Below.refl _ _).alloc (Nat.le_refl _) _))) SA.out)
  have HP : Hid (SkyAt W w.heap.size D ch L fair ∧ SkyAt W w9.heap.size DA (postC ch to at_ raw) (postLs ch L fair to at_ raw) fair ∧ SkyAt W w10.heap.size DB ch L fair ∧ SkyAt W w11.heap.size DC ch L fair) := Lib.hid ⟨Ts11.out.kept hWB, Ta11.out.kept hWB, Tb11.out.kept hWB, by rw [hW]; exact SkyAt.new w11 DC ch L fair 27⟩
  clear s0_ s1_ s2_ s3_ s4_ s5_ s6_ s7_ s8_ s9_ s10_ s11_ a0_ a1_ a2_ a3_ a4_ a5_ a6_ a7_ a8_ a9_ a10_ a11_ b0_ b1_ b2_ b3_ b4_ b5_ b6_ b7_ b8_ b9_ b10_ b11_ hW hWB ls9 ls10 ls11 la10 la11 lb11
  go_region_held3 (fun w' => Hid (Below W.heap.size W w') ∧ w'.cell? ⟨w.heap.size, 0, none⟩ = some (D 0) ∧ w'.cell? ⟨w.heap.size, 1, none⟩ = some (D 1) ∧ w'.cell? ⟨w.heap.size, 2, none⟩ = some (.string ch) ∧ w'.cell? ⟨w.heap.size, 3, none⟩ = some (.int .i64 (L 0)) ∧ w'.cell? ⟨w.heap.size, 4, none⟩ = some (.int .i64 (L 1)) ∧ w'.cell? ⟨w.heap.size, 5, none⟩ = some (.int .i64 (L 2)) ∧ w'.cell? ⟨w.heap.size, 6, none⟩ = some (.int .i64 (L 3)) ∧ w'.cell? ⟨w.heap.size, 7, none⟩ = some (.int .i64 (L 4)) ∧ w'.cell? ⟨w.heap.size, 8, none⟩ = some (.int .i64 (L 5)) ∧ w'.cell? ⟨w.heap.size, 9, none⟩ = some (.int .i64 (L 6)) ∧ w'.cell? ⟨w.heap.size, 10, none⟩ = some (.int .i64 (L 7)) ∧ w'.cell? ⟨w.heap.size, 11, none⟩ = some (.int .i64 fair) ∧ w'.cell? ⟨w9.heap.size, 0, none⟩ = some (DA 0) ∧ w'.cell? ⟨w9.heap.size, 1, none⟩ = some (DA 1) ∧ w'.cell? ⟨w9.heap.size, 2, none⟩ = some (.string (postC ch to at_ raw)) ∧ w'.cell? ⟨w9.heap.size, 3, none⟩ = some (.int .i64 ((postLs ch L fair to at_ raw) 0)) ∧ w'.cell? ⟨w9.heap.size, 4, none⟩ = some (.int .i64 ((postLs ch L fair to at_ raw) 1)) ∧ w'.cell? ⟨w9.heap.size, 5, none⟩ = some (.int .i64 ((postLs ch L fair to at_ raw) 2)) ∧ w'.cell? ⟨w9.heap.size, 6, none⟩ = some (.int .i64 ((postLs ch L fair to at_ raw) 3)) ∧ w'.cell? ⟨w9.heap.size, 7, none⟩ = some (.int .i64 ((postLs ch L fair to at_ raw) 4)) ∧ w'.cell? ⟨w9.heap.size, 8, none⟩ = some (.int .i64 ((postLs ch L fair to at_ raw) 5)) ∧ w'.cell? ⟨w9.heap.size, 9, none⟩ = some (.int .i64 ((postLs ch L fair to at_ raw) 6)) ∧ w'.cell? ⟨w9.heap.size, 10, none⟩ = some (.int .i64 ((postLs ch L fair to at_ raw) 7)) ∧ w'.cell? ⟨w9.heap.size, 11, none⟩ = some (.int .i64 fair) ∧ w'.cell? ⟨w10.heap.size, 0, none⟩ = some (DB 0) ∧ w'.cell? ⟨w10.heap.size, 1, none⟩ = some (DB 1) ∧ w'.cell? ⟨w10.heap.size, 2, none⟩ = some (.string ch) ∧ w'.cell? ⟨w10.heap.size, 3, none⟩ = some (.int .i64 (L 0)) ∧ w'.cell? ⟨w10.heap.size, 4, none⟩ = some (.int .i64 (L 1)) ∧ w'.cell? ⟨w10.heap.size, 5, none⟩ = some (.int .i64 (L 2)) ∧ w'.cell? ⟨w10.heap.size, 6, none⟩ = some (.int .i64 (L 3)) ∧ w'.cell? ⟨w10.heap.size, 7, none⟩ = some (.int .i64 (L 4)) ∧ w'.cell? ⟨w10.heap.size, 8, none⟩ = some (.int .i64 (L 5)) ∧ w'.cell? ⟨w10.heap.size, 9, none⟩ = some (.int .i64 (L 6)) ∧ w'.cell? ⟨w10.heap.size, 10, none⟩ = some (.int .i64 (L 7)) ∧ w'.cell? ⟨w10.heap.size, 11, none⟩ = some (.int .i64 fair) ∧ w'.cell? ⟨w11.heap.size, 0, none⟩ = some (DC 0) ∧ w'.cell? ⟨w11.heap.size, 1, none⟩ = some (DC 1) ∧ w'.cell? ⟨w11.heap.size, 2, none⟩ = some (.string ch) ∧ w'.cell? ⟨w11.heap.size, 3, none⟩ = some (.int .i64 (L 0)) ∧ w'.cell? ⟨w11.heap.size, 4, none⟩ = some (.int .i64 (L 1)) ∧ w'.cell? ⟨w11.heap.size, 5, none⟩ = some (.int .i64 (L 2)) ∧ w'.cell? ⟨w11.heap.size, 6, none⟩ = some (.int .i64 (L 3)) ∧ w'.cell? ⟨w11.heap.size, 7, none⟩ = some (.int .i64 (L 4)) ∧ w'.cell? ⟨w11.heap.size, 8, none⟩ = some (.int .i64 (L 5)) ∧ w'.cell? ⟨w11.heap.size, 9, none⟩ = some (.int .i64 (L 6)) ∧ w'.cell? ⟨w11.heap.size, 10, none⟩ = some (.int .i64 (L 7)) ∧ w'.cell? ⟨w11.heap.size, 11, none⟩ = some (.int .i64 fair))
    (first
      | exact keep4 HP (Lib.hid (Below.refl W.heap.size W).drew)
      | (go_split_ands; go_split_ands; exact keep4 HP (Lib.hid (bel (Hid.out ‹Hid (Below W.heap.size W _)›) ‹_›))))
    (first
      | (go_at_call 16
         go_split_ands
         go_split_ands
         refine Calls.mono (rpost_all D S ch raw L fair to at_ _ (KS.out _ (bel SW.out (Hid.out ‹Hid (Below W.heap.size W _)›))) HFS.out hch hraw) ?_
         rintro e w12 ⟨DA2, rfl, hpp, hb⟩
         have KA2 : Hid (∀ W', Below w12.heap.size w12 W' → SkyP W' DA2 (postS S ch L fair to at_ raw)) := Lib.hid fun W' hB => hpp.on hB
         unfold skyV
         clear hpp)
      | (go_at_call 14
         go_split_ands
         go_split_ands
         refine Calls.mono (rsame_any _ _ _ _ _ _ _ _ _ _ _ (by first | exact (KA.out _ (bel SA.out (Hid.out ‹Hid (Below W.heap.size W _)›))).1 | exact (KB.out _ (bel SBB.out (Hid.out ‹Hid (Below W.heap.size W _)›))).1) (by first | exact (KA.out _ (bel SA.out (Hid.out ‹Hid (Below W.heap.size W _)›))).2 | exact (KB.out _ (bel SBB.out (Hid.out ‹Hid (Below W.heap.size W _)›))).2) (by first | exact (KA2.out _ (by first | exact Below.refl _ _ | assumption)).1 | exact (KC.out _ (bel SC.out (Hid.out ‹Hid (Below W.heap.size W _)›))).1) (by first | exact (KA2.out _ (by first | exact Below.refl _ _ | assumption)).2 | exact (KC.out _ (bel SC.out (Hid.out ‹Hid (Below W.heap.size W _)›))).2)) ?_
         first
           | (rintro e w14 ⟨b, rfl, hbb, hb⟩
              obtain rfl := hbb.2 ⟨rfl, fun _ _ => rfl, rfl, rfl, rfl⟩
              have hq := Q13.out
              clear hbb hq)
           | (rintro e w13 ⟨b, rfl, hbb, hb⟩
              obtain rfl := hbb.2 ⟨rfl, fun _ _ => rfl, rfl, rfl, rfl⟩
              have Q13 : Hid True := Lib.hid trivial
              clear hbb))
      | (go_at_call 8
         go_split_ands
         go_split_ands
         refine Calls.mono (rfit_any _ _ _ _ _ _ (by first | exact (KA.out _ (bel SA.out (Hid.out ‹Hid (Below W.heap.size W _)›))).1 | exact (KB.out _ (bel SBB.out (Hid.out ‹Hid (Below W.heap.size W _)›))).1) (by first | exact (KA.out _ (bel SA.out (Hid.out ‹Hid (Below W.heap.size W _)›))).2 | exact (KB.out _ (bel SBB.out (Hid.out ‹Hid (Below W.heap.size W _)›))).2) (by first | (have := FW.out; omega) | (have := (FA.out.2.2 0 (by omega)).1; have := (FA.out.2.2 1 (by omega)).1; omega) | (have := (FP.out.2.2 0 (by omega)).1; have := (FP.out.2.2 1 (by omega)).1; omega)) (by first | (have := FW.out; omega) | (have := (FA.out.2.2 0 (by omega)).1; have := (FA.out.2.2 1 (by omega)).1; omega) | (have := (FP.out.2.2 0 (by omega)).1; have := (FP.out.2.2 1 (by omega)).1; omega))) ?_
         first
           | (rintro e w16 ⟨b, rfl, hbb, hb⟩
              have hq := Q15.out
              obtain rfl := hbb.2 FP.out
              clear hbb hq)
           | (rintro e w15 ⟨b, rfl, hbb, hb⟩
              obtain rfl := hbb.2 FA.out
              have Q15 : Hid True := Lib.hid trivial
              clear hbb))
      | (go_at_call 9
         go_split_ands
         refine Calls.mono (awake_any _) ?_
         rintro e w17 ⟨rfl, hb⟩))
  rename Hid (Below W.heap.size W w17) ∧ _ => hPh
  have hBh := hPh.1
  clear hPh
  go_wp2_with fail
  go_ret
  exact ⟨rfl, bel SW.out hBh.out⟩

end Go.Proofs.Ytgllojpeggmleaa
