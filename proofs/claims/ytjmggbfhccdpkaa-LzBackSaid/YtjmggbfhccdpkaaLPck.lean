/-
  A text packed: the program's loop.
-/
import Derived.Test.YtjmggbfhccdpkaaLBst
import Derived.Test.YtjmggbfhccdpkaaLFls
namespace Go.Proofs.Ytjmggbfhccdpkaa
open Go.RowKit Go.Shelf Go.Proofs.Mem Go.Maps
set_option linter.unusedVariables false

def packL (s : ByteArray) (i : Nat) (out r : List UInt8) : List UInt8 :=
  if h : i < s.size then
    if hb : (bestP s i).1 = 0 then
      (if r.length + 1 = 128 then packL s (i + 1) (out ++ rowL (r ++ [s[i]])) [] else packL s (i + 1) out (r ++ [s[i]]))
    else packL s (i + (bestP s i).1) (out ++ rowL r ++ [UInt8.ofNat ((bestP s i).1 + 124)] ++ (putB (bestP s i).2).data.toList) []
  else out ++ rowL r
termination_by s.size - i
def packB (s : ByteArray) : ByteArray := ⟨(packL s 0 [] []).toArray⟩
theorem pack_end {s : ByteArray} {i : Nat} {out r : List UInt8} (h : ¬ i < s.size) : packL s i out r = out ++ rowL r := by rw [packL, dif_neg h]
theorem pack_full {s : ByteArray} {i : Nat} {out r : List UInt8} (h : i < s.size) (hb : (bestP s i).1 = 0) (hf : r.length + 1 = 128) : packL s i out r = packL s (i + 1) (out ++ rowL (r ++ [s[i]])) [] := by rw [packL, dif_pos h, dif_pos hb, if_pos hf]
theorem pack_lit {s : ByteArray} {i : Nat} {out r : List UInt8} (h : i < s.size) (hb : (bestP s i).1 = 0) (hf : ¬ r.length + 1 = 128) : packL s i out r = packL s (i + 1) out (r ++ [s[i]]) := by rw [packL, dif_pos h, dif_pos hb, if_neg hf]
theorem pack_match {s : ByteArray} {i : Nat} {out r : List UInt8} (h : i < s.size) (hb : ¬ (bestP s i).1 = 0) : packL s i out r = packL s (i + (bestP s i).1) (out ++ rowL r ++ [UInt8.ofNat ((bestP s i).1 + 124)] ++ (putB (bestP s i).2).data.toList) [] := by rw [packL, dif_pos h, dif_neg hb]
theorem row_le (r : List UInt8) : (rowL r).length ≤ r.length + 1 := by
  unfold rowL
  split
  · simp
  · rw [List.length_cons]; omega
theorem bestP_le (s : ByteArray) (i : Nat) (h : i ≤ s.size) : (bestP s i).1 ≤ 131 ∧ (bestP s i).1 ≤ s.size - i ∧ (bestP s i).2 ≤ i ∧ (bestP s i).2 ≤ 4096 ∧ ((bestP s i).1 = 0 ∨ (4 ≤ (bestP s i).1 ∧ 1 ≤ (bestP s i).2 ∧ (bestP s i).1 = sameN s (i - (bestP s i).2) i)) := by
  have := bestK_le s i h (min i 4096) (Nat.min_le_left _ _)
  unfold bestP
  exact ⟨this.1, this.2.1, by omega, by omega, this.2.2.2⟩

/-- What the finder does leaves the packer alone. -/
theorem Pk.oth {w w' : World} {B b F M n : Nat} {bv : Value} {s : ByteArray} {bs rs : List UInt8} (h : Pk w B b bs rs) (hF : Fndr w B F M bv s n) (ho : Oth 3 (fun q => q = F ∨ q = M) w w') : Pk w' B b bs rs := by
  obtain ⟨p, v, r, hp, hP, hz⟩ := h
  obtain ⟨es, clock, hm⟩ := heads_map hF.hds
  have keep : ∀ (q : Nat) (o : Obj), w.heap[q]? = some o → (∀ cs fr, o ≠ .cells cs 36 fr) → (∀ es c, o ≠ .map es c) → (∀ cs fr, o ≠ .cells cs 3 fr) → w'.heap[q]? = w.heap[q]? := by
    intro q o hq h1 h2 h3
    have hlt : q < w.heap.size := by
      rcases Nat.lt_or_ge q w.heap.size with h' | h'
      · exact h'
      · rw [Array.getElem?_eq_none h'] at hq; cases hq
    refine ho.2 q hlt ?_ (fun cs fr e => ?_)
    · rintro (rfl | rfl)
      · rw [hF.blk] at hq; injection hq with hq; exact h1 _ _ hq.symm
      · rw [hm] at hq; injection hq with hq; exact h2 _ _ hq.symm
    · rw [hq] at e; injection e with e; exact h3 _ _ e
  have keepRow : ∀ {x : Value} {k : Nat} {xs : List Value}, w.ownsRow B 5 1 x k xs → w'.ownsRow B 5 1 x k xs := by
    intro x k xs hx
    refine ⟨hx.1, ?_⟩
    rcases hx.2 with h0 | ⟨g, cap, cur, h1, h2, h3, h4⟩
    · exact .inl h0
    · exact .inr ⟨g, cap, cur, h1, h2, (keep g _ h3 (fun _ _ e => by injection e with _ e; revert e; decide) (fun _ _ e => by cases e) (fun _ _ e => by injection e with _ e; revert e; decide)).trans h3, h4⟩
  exact ⟨p, v, r, hp, ⟨hP.hB, (keep b _ hP.blk (fun _ _ e => by injection e with _ e; revert e; decide) (fun _ _ e => by cases e) (fun _ _ e => by injection e with _ e; revert e; decide)).trans hP.blk, keepRow hP.vo, keepRow hP.ro, hP.ne⟩, hz⟩
theorem Pk.blk {w : World} {B b : Nat} {bs rs : List UInt8} (h : Pk w B b bs rs) : ∃ cs fr, w.heap[b]? = some (.cells cs 42 fr) := by
  obtain ⟨p, v, r, hp, hP, hz⟩ := h
  exact ⟨_, _, hP.blk⟩

set_option maxRecDepth 100000 in
set_option maxHeartbeats 4000000 in
theorem pack_any (s : ByteArray) (w : World) (hs : s.size ≤ 20000) :
    Calls Try.prog 7 #[.string s] w fun e w' => e = .returned (.string (packB s)) ∧ Below w.heap.size w w' := by
  have hmm := @run_makeMap Try.prog
  have HS := Lib.hid hs
  go_enter Try.func7, Try.ntmps7
  go_wp2_with fail
  have hf0 : Fndr (((w.alloc (.map #[] 0)).alloc (.cells #[.string s, .map (some w.heap.size), .slice none 0 0] 36)).alloc (.cells #[.pointer none, .slice none 0 0, .slice none 0 0] 42)) w.heap.size (w.heap.size + 1) w.heap.size (.slice none 0 0) s 0 := by
    refine ⟨Nat.le_succ _, Nat.le_refl _, ?_, ?_, World.ownsRow_nil _ _ _ _⟩
    · exact (Lib.alloc_old _ _ _ (by simp)).trans (by have h := heap_alloc_new (w.alloc (.map #[] 0)) (.cells #[.string s, .map (some w.heap.size), .slice none 0 0] 36); simpa using h)
    · have h1 : Heads (w.alloc (.map #[] 0)) w.heap.size 0 (fun k => (chainL s k 0).head?) := heads_made w
      exact (h1.at_ (Lib.alloc_old _ _ _ (by simp))).at_ (Lib.alloc_old _ _ _ (by simp; omega))
  have hp0 : Pk (((w.alloc (.map #[] 0)).alloc (.cells #[.string s, .map (some w.heap.size), .slice none 0 0] 36)).alloc (.cells #[.pointer none, .slice none 0 0, .slice none 0 0] 42)) w.heap.size (w.heap.size + 1 + 1) [] [] :=
    ⟨.pointer none, .slice none 0 0, .slice none 0 0, .inl rfl, ⟨by omega, by have h := heap_alloc_new ((w.alloc (.map #[] 0)).alloc (.cells #[.string s, .map (some w.heap.size), .slice none 0 0] 36)) (.cells #[.pointer none, .slice none 0 0, .slice none 0 0] 42); simpa using h, World.ownsRow_nil _ _ _ _, World.ownsRow_nil _ _ _ _, fun g h => by simp [Value.ownBlock] at h⟩, fun _ => rfl⟩
  have HF0 := Lib.hid hf0
  have HP0 := Lib.hid hp0
  have HB0 : Hid (Below w.heap.size w (((w.alloc (.map #[] 0)).alloc (.cells #[.string s, .map (some w.heap.size), .slice none 0 0] 36)).alloc (.cells #[.pointer none, .slice none 0 0, .slice none 0 0] 42))) := Lib.hid ((((Below.refl _ _).alloc (Nat.le_refl _) _).alloc (by simp) _).alloc (by simp; omega) _)
  clear hf0 hp0 hmm
  go_loopw [5, 6, 7] (fun iv _ _ wr => ∃ (i : Nat) (out r : List UInt8) (bv : Value), iv = .int .i64 i ∧ i ≤ s.size ∧ Hid (Fndr wr w.heap.size (w.heap.size + 1) w.heap.size bv s i) ∧ Hid (Pk wr w.heap.size (w.heap.size + 1 + 1) out r) ∧ Hid (packL s i out r = packL s 0 [] []) ∧ Hid (r.length < 128) ∧ Hid (out.length + r.length ≤ 13 * i) ∧ Hid (Below w.heap.size w wr)) (fun iv _ _ _ => s.size + 1 - (intOf iv).toNat)
  case atStart => exact ⟨0, [], [], _, rfl, Nat.zero_le _, HF0, HP0, Lib.hid rfl, Lib.hid (by decide), Lib.hid (Nat.le_refl _), HB0⟩
  case round =>
    obtain ⟨i, out, r, bv, rfl, hi, HF, HP, HL, HR, HO, HB⟩ := hrel
    clear HF0 HP0 HB0
    by_cases hlt : i < s.size
    case neg =>
      have HE : Hid ((⟨(out ++ rowL r).toArray⟩ : ByteArray) = packB s) := Lib.hid (by unfold packB; rw [← HL.out, pack_end hlt])
      have hil : (s.size : Int) ≤ (i : Int) := by omega
      go_wp2_with (first
        | (go_at_call 17
           refine Calls.mono (flush_any _ w.heap.size (w.heap.size + 1 + 1) out r HP.out (by have := HR.out; omega) (by have := HO.out; omega) HB.out.size) ?_
           rintro e w2 ⟨rfl, hp2, hb2, _⟩
           have HP2 := Lib.hid hp2
           have HB2 := Lib.hid (HB.out.trans hb2)
           clear hp2 hb2)
        | (go_at_call 18
           refine Calls.mono (pstring_any w.heap.size (w.heap.size + 1 + 1) _ [] _ HP2.out) ?_
           rw [HE.out]
           rintro e w3 ⟨rfl, hb3⟩
           have HB3 := Lib.hid (HB2.out.trans hb3)
           clear hb3))
      go_ret
      exact ⟨rfl, HB3.out⟩
    have ilt : (i : Int) < (s.size : Int) := by omega
    obtain ⟨hn131, hnroom, hf2, hf4, hn4⟩ := bestP_le s i hi
    have HBB := Lib.hid (fun W (hW : Fndr W w.heap.size (w.heap.size + 1) w.heap.size bv s i) => best_any s w.heap.size (w.heap.size + 1) w.heap.size i bv W (by omega) hi hW)
    have HMT : Hid (¬ (bestP s i).1 = 0 → packL s i out r = packL s (i + (bestP s i).1) (out ++ rowL r ++ [UInt8.ofNat ((bestP s i).1 + 124)] ++ (putB (bestP s i).2).data.toList) []) := Lib.hid (fun h => pack_match hlt h)
    have HFU : Hid ((bestP s i).1 = 0 → r.length + 1 = 128 → packL s i out r = packL s (i + 1) (out ++ rowL (r ++ [s[i]])) []) := Lib.hid (fun h h2 => pack_full hlt h h2)
    have HLI : Hid ((bestP s i).1 = 0 → ¬ r.length + 1 = 128 → packL s i out r = packL s (i + 1) out (r ++ [s[i]])) := Lib.hid (fun h h2 => pack_lit hlt h h2)
    unfold bestV at HBB
    obtain ⟨n, hn⟩ : ∃ n, n = (bestP s i).1 := ⟨_, rfl⟩
    obtain ⟨f, hf⟩ : ∃ n, n = (bestP s i).2 := ⟨_, rfl⟩
    rw [← hn] at hn131 hnroom hn4 HBB HMT HFU HLI
    rw [← hf] at hf2 hf4 HBB HMT
    have hn4' : n = 0 ∨ 4 ≤ n := by rcases hn4 with h | h; exact .inl h; exact .inr h.1
    clear hn hf hn4
    have BESTARM : True := trivial
    rcases hn4' with rfl | h4
    · have hcb : s[i].toNat < 256 := s[i].toNat_lt
      have hofn : UInt8.ofNat s[i].toNat = s[i] := by simp
      have HOF := Lib.hid hofn
      have HLT := Lib.hid (fun W (hW : Pk W w.heap.size (w.heap.size + 1 + 1) out r) (hB : w.heap.size ≤ W.heap.size) => literal_any W w.heap.size (w.heap.size + 1 + 1) s[i].toNat out r hW HR.out hcb (by have := HO.out; omega) hB)
      rw [hofn] at HLT
      by_cases hfull : r.length + 1 = 128
      · simp only [if_pos hfull] at HLT
        have HLL : Hid (packL s (i + 1) (out ++ rowL (r ++ [s[i]])) [] = packL s 0 [] []) := Lib.hid (by rw [← HFU.out rfl hfull]; exact HL.out)
        have HOO : Hid ((out ++ rowL (r ++ [s[i]])).length + ([] : List UInt8).length ≤ 13 * (i + 1)) := Lib.hid (by
          have h1 := row_le (r ++ [s[i]])
          rw [List.length_append, List.length_singleton] at h1
          have := HO.out
          rw [List.length_append, List.length_nil]; omega)
        clear hfull HMT HFU HLI hofn
        obtain ⟨out2, ho2⟩ : ∃ l, l = out ++ rowL (r ++ [s[i]]) := ⟨_, rfl⟩
        rw [← ho2] at HLT HLL HOO
        clear ho2
        go_wp2_with (first
          | (go_at_call 13
             refine Calls.mono (HBB.out _ HF.out) ?_
             rintro e w1 ⟨rfl, hb1⟩
             have HF1 := Lib.hid (HF.out.below hb1)
             have HP1 := Lib.hid (HP.out.below hb1)
             have HB1 := Lib.hid (bel HB.out hb1)
             clear hb1)
          | (go_at_call 14
             refine Calls.mono (HLT.out _ HP1.out HB1.out.size) ?_
             rintro e w2 ⟨rfl, hp2, hb2, ho2⟩
             have HP2 := Lib.hid hp2
             have HF2 := Lib.hid (HF1.out.oth ho2 HP1.out.blk hb2)
             have HB2 := Lib.hid (HB1.out.trans hb2)
             clear hp2 hb2 ho2))
        go_loopw [5, 36] (fun iv jv wq => ∃ (j : Nat) (bv : Value), jv = .int .i64 j ∧ j ≤ 1 ∧ iv = .int .i64 ((i + j : Nat) : Int) ∧ Hid (Fndr wq w.heap.size (w.heap.size + 1) w.heap.size bv s (i + j)) ∧ Hid (Pk wq w.heap.size (w.heap.size + 1 + 1) out2 []) ∧ Hid (Below w.heap.size w wq)) (fun _ jv _ => 1 + 1 - (intOf jv).toNat)
        case atStart => exact ⟨0, bv, rfl, Nat.zero_le _, by rw [Nat.add_zero], HF2, HP2, HB2⟩
        case round =>
          obtain ⟨j, bv2, rfl, hj, rfl, HFj, HPj, HBj⟩ := hrel
          by_cases hjn : j < 1
          · have j1 : (j : Int) < (1 : Int) := by omega
            have hij : i + j < s.size := by omega
            have hijz : i + j ≤ 20000 := by omega
            go_wp2_with (go_at_call 16
                         refine Calls.mono (note_any _ w.heap.size (w.heap.size + 1) w.heap.size (i + j) bv2 s HFj.out (by omega) hij HBj.out.size) ?_
                         rintro e w5 ⟨rfl, bv5, hF5, hB5, hO5⟩
                         have HF5 := Lib.hid hF5
                         have HP5 := Lib.hid (HPj.out.oth HFj.out hO5)
                         have HB5 := Lib.hid (HBj.out.trans hB5)
                         clear hF5 hB5 hO5)
            go_roundw
            case rel => exact ⟨j + 1, bv5, by go_num, by omega, by go_num, HF5, HP5, HB5⟩
            case measure => simp [intOf]; omega
          · obtain rfl : j = 1 := by omega
            go_wp2_with fail
            go_roundw
            case rel => exact ⟨i + 1, out2, [], bv2, by go_num, by omega, HFj, HPj, HLL, Lib.hid (by decide), HOO, HBj⟩
            case measure => simp [intOf]; omega
      · simp only [if_neg hfull] at HLT
        have HLL : Hid (packL s (i + 1) out (r ++ [s[i]]) = packL s 0 [] []) := Lib.hid (by rw [← HLI.out rfl hfull]; exact HL.out)
        have HOO : Hid (out.length + (r ++ [s[i]]).length ≤ 13 * (i + 1)) := Lib.hid (by
          have := HO.out
          rw [List.length_append, List.length_singleton]; omega)
        have HRR : Hid ((r ++ [s[i]]).length < 128) := Lib.hid (by have := HR.out; rw [List.length_append, List.length_singleton]; omega)
        clear hfull HMT HFU HLI hofn
        obtain ⟨r2, hr2⟩ : ∃ l, l = r ++ [s[i]] := ⟨_, rfl⟩
        rw [← hr2] at HLT HLL HOO HRR
        clear hr2
        go_wp2_with (first
          | (go_at_call 13
             refine Calls.mono (HBB.out _ HF.out) ?_
             rintro e w1 ⟨rfl, hb1⟩
             have HF1 := Lib.hid (HF.out.below hb1)
             have HP1 := Lib.hid (HP.out.below hb1)
             have HB1 := Lib.hid (bel HB.out hb1)
             clear hb1)
          | (go_at_call 14
             refine Calls.mono (HLT.out _ HP1.out HB1.out.size) ?_
             rintro e w2 ⟨rfl, hp2, hb2, ho2⟩
             have HP2 := Lib.hid hp2
             have HF2 := Lib.hid (HF1.out.oth ho2 HP1.out.blk hb2)
             have HB2 := Lib.hid (HB1.out.trans hb2)
             clear hp2 hb2 ho2))
        go_loopw [5, 36] (fun iv jv wq => ∃ (j : Nat) (bv : Value), jv = .int .i64 j ∧ j ≤ 1 ∧ iv = .int .i64 ((i + j : Nat) : Int) ∧ Hid (Fndr wq w.heap.size (w.heap.size + 1) w.heap.size bv s (i + j)) ∧ Hid (Pk wq w.heap.size (w.heap.size + 1 + 1) out r2) ∧ Hid (Below w.heap.size w wq)) (fun _ jv _ => 1 + 1 - (intOf jv).toNat)
        case atStart => exact ⟨0, bv, rfl, Nat.zero_le _, by rw [Nat.add_zero], HF2, HP2, HB2⟩
        case round =>
          obtain ⟨j, bv2, rfl, hj, rfl, HFj, HPj, HBj⟩ := hrel
          by_cases hjn : j < 1
          · have j1 : (j : Int) < (1 : Int) := by omega
            have hij : i + j < s.size := by omega
            have hijz : i + j ≤ 20000 := by omega
            go_wp2_with (go_at_call 16
                         refine Calls.mono (note_any _ w.heap.size (w.heap.size + 1) w.heap.size (i + j) bv2 s HFj.out (by omega) hij HBj.out.size) ?_
                         rintro e w5 ⟨rfl, bv5, hF5, hB5, hO5⟩
                         have HF5 := Lib.hid hF5
                         have HP5 := Lib.hid (HPj.out.oth HFj.out hO5)
                         have HB5 := Lib.hid (HBj.out.trans hB5)
                         clear hF5 hB5 hO5)
            go_roundw
            case rel => exact ⟨j + 1, bv5, by go_num, by omega, by go_num, HF5, HP5, HB5⟩
            case measure => simp [intOf]; omega
          · obtain rfl : j = 1 := by omega
            go_wp2_with fail
            go_roundw
            case rel => exact ⟨i + 1, out, r2, bv2, by go_num, by omega, HFj, HPj, HLL, HRR, HOO, HBj⟩
            case measure => simp [intOf]; omega
    · have HMM := Lib.hid (fun W (hW : Pk W w.heap.size (w.heap.size + 1 + 1) out r) (hB : w.heap.size ≤ W.heap.size) => match_any W w.heap.size (w.heap.size + 1 + 1) n f out r hW (by have := HR.out; omega) h4 hn131 (by omega) (by have := HO.out; omega) hB)
      have HLL : Hid (packL s (i + n) (out ++ rowL r ++ [UInt8.ofNat (n + 124)] ++ (putB f).data.toList) [] = packL s 0 [] []) := Lib.hid (by rw [← HMT.out (by omega)]; exact HL.out)
      have HOO : Hid ((out ++ rowL r ++ [UInt8.ofNat (n + 124)] ++ (putB f).data.toList).length + ([] : List UInt8).length ≤ 13 * (i + n)) := Lib.hid (by
        have h1 := row_le r
        have h2 := putB_len f
        have h3 : (putB f).data.toList.length = (putB f).size := Array.length_toList
        have := HO.out
        rw [List.length_append, List.length_append, List.length_append, List.length_singleton, List.length_nil, h3]; omega)
      have hn0 : ((n : Int) == 0) = false := by rw [beq_eq_false_iff_ne]; omega
      obtain ⟨out2, ho2⟩ : ∃ l, l = out ++ rowL r ++ [UInt8.ofNat (n + 124)] ++ (putB f).data.toList := ⟨_, rfl⟩
      rw [← ho2] at HMM HLL HOO
      clear ho2 HMT HFU HLI
      go_wp2_with (first
        | (go_at_call 13
           refine Calls.mono (HBB.out _ HF.out) ?_
           rintro e w1 ⟨rfl, hb1⟩
           have HF1 := Lib.hid (HF.out.below hb1)
           have HP1 := Lib.hid (HP.out.below hb1)
           have HB1 := Lib.hid (bel HB.out hb1)
           clear hb1)
        | (go_at_call 15
           refine Calls.mono (HMM.out _ HP1.out HB1.out.size) ?_
           rintro e w2 ⟨rfl, hp2, hb2, ho2⟩
           have HP2 := Lib.hid hp2
           have HF2 := Lib.hid (HF1.out.oth ho2 HP1.out.blk hb2)
           have HB2 := Lib.hid (HB1.out.trans hb2)
           clear hp2 hb2 ho2))
      go_loopw [5, 36] (fun iv jv wq => ∃ (j : Nat) (bv : Value), jv = .int .i64 j ∧ j ≤ n ∧ iv = .int .i64 ((i + j : Nat) : Int) ∧ Hid (Fndr wq w.heap.size (w.heap.size + 1) w.heap.size bv s (i + j)) ∧ Hid (Pk wq w.heap.size (w.heap.size + 1 + 1) out2 []) ∧ Hid (Below w.heap.size w wq)) (fun _ jv _ => n + 1 - (intOf jv).toNat)
      case atStart => exact ⟨0, bv, rfl, Nat.zero_le _, by rw [Nat.add_zero], HF2, HP2, HB2⟩
      case round =>
        obtain ⟨j, bv2, rfl, hj, rfl, HFj, HPj, HBj⟩ := hrel
        by_cases hjn : j < n
        · have j1 : (j : Int) < (n : Int) := by omega
          have hij : i + j < s.size := by omega
          have hijz : i + j ≤ 20000 := by omega
          go_wp2_with (go_at_call 16
                       refine Calls.mono (note_any _ w.heap.size (w.heap.size + 1) w.heap.size (i + j) bv2 s HFj.out (by omega) hij HBj.out.size) ?_
                       rintro e w5 ⟨rfl, bv5, hF5, hB5, hO5⟩
                       have HF5 := Lib.hid hF5
                       have HP5 := Lib.hid (HPj.out.oth HFj.out hO5)
                       have HB5 := Lib.hid (HBj.out.trans hB5)
                       clear hF5 hB5 hO5)
          go_roundw
          case rel => exact ⟨j + 1, bv5, by go_num, by omega, by go_num, HF5, HP5, HB5⟩
          case measure => simp [intOf]; omega
        · obtain rfl : j = n := by omega
          go_wp2_with fail
          go_roundw
          case rel => exact ⟨i + j, out2, [], bv2, by go_num, by omega, HFj, HPj, HLL, Lib.hid (by decide), HOO, HBj⟩
          case measure => simp [intOf]; omega

end Go.Proofs.Ytjmggbfhccdpkaa
