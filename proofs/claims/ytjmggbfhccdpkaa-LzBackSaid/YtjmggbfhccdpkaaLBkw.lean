/-
  Open of what Squash wrote; LzBack's walk.
-/
import Derived.Test.YtjmggbfhccdpkaaLUpk
import Derived.Test.YtjmggbfhccdpkaaLAwk
namespace Go.Proofs.Ytjmggbfhccdpkaa
open Go.RowKit Go.Shelf Go.Proofs.Mem
set_option linter.unusedVariables false

theorem head_rest (b : UInt8) (t : ByteArray) : ((⟨#[b]⟩ : ByteArray) ++ t).extract 1 ((⟨#[b]⟩ : ByteArray) ++ t).size = t := by
  apply ByteArray.ext
  apply Array.toList_inj.1
  rw [ext_drop, ByteArray.data_append, Array.toList_append]
  rfl
theorem ne_facts {s : ByteArray} (h0 : ¬ s.size = 0) : (s.toList == (⟨#[]⟩ : ByteArray).toList) = false ∧ (s.toList = [] ↔ False) ∧ s.toList.isEmpty = false := by
  have hne2 : s.toList = [] ↔ False := by
    rw [Lib.toList_data]
    refine ⟨fun e => ?_, fun h => h.elim⟩
    have := congrArg List.length e
    rw [Array.length_toList] at this
    exact h0 this
  refine ⟨?_, hne2, ?_⟩
  · rw [beq_eq_false_iff_ne, Lib.toList_data, Lib.toList_data]
    intro e
    have := congrArg List.length e
    rw [Array.length_toList] at this
    exact h0 this
  · rw [List.isEmpty_eq_false_iff]
    exact fun e => (hne2.1 e)
set_option maxHeartbeats 2000000 in
theorem open_any (t : ByteArray) (m : Nat) (w : World) (ht : t.size ≤ 20000) (hm : m ≤ 100000) :
    Calls Try.prog 12 #[.string (squashB t), .int .i64 (m : Nat)] w fun e w' => e = .returned (upkV t m) ∧ Below w.heap.size w w' := by
  have hroom := packB_room t
  have HU := Lib.hid (fun W => unpack_any (packB t) t m W (packB_unp t) (by omega) (by omega) hm)
  obtain ⟨q, hq⟩ : ∃ q, q = squashB t := ⟨_, rfl⟩
  rw [← hq]
  by_cases hlt : (packB t).size < t.size
  · rw [squashB, if_pos hlt] at hq
    have hr : q.extract 1 q.size = packB t := by rw [hq]; exact head_rest 1 _
    have hz : q.size = (packB t).size + 1 := by rw [hq, ByteArray.size_append, show (⟨#[1]⟩ : ByteArray).size = 1 from rfl]; omega
    have hpos : 0 < q.size := by omega
    have h1 : 1 ≤ q.size := hpos
    have hb : (q[0]'hpos).toNat = 1 := by subst hq; rfl
    obtain ⟨n1, n2, n3⟩ := ne_facts (s := q) (by omega)
    obtain ⟨rs, re, hv⟩ : ∃ (rs : ByteArray) (re : Int), upkV t m = .tuple #[.string rs, .int .i64 re] := by
      unfold upkV
      split
      · exact ⟨_, _, rfl⟩
      · exact ⟨_, _, rfl⟩
    rw [hv] at HU
    have HV := Lib.hid hv
    clear hq hz hroom hlt hv
    go_enter Try.func12, Try.ntmps12
    go_wp2_with (go_at_call 11; refine Calls.mono (HU.out _) ?_; rintro e w1 ⟨rfl, hb1⟩; have HB1 := Lib.hid hb1; clear hb1)
    go_ret2
    exact ⟨by rw [HV.out]; rfl, HB1.out⟩
  · rw [squashB, if_neg hlt] at hq
    have hr : q.extract 1 q.size = t := by rw [hq]; exact head_rest 0 _
    have hz : q.size = t.size + 1 := by rw [hq, ByteArray.size_append, show (⟨#[0]⟩ : ByteArray).size = 1 from rfl]; omega
    have hpos : 0 < q.size := by omega
    have h1 : 1 ≤ q.size := hpos
    have hb : (q[0]'hpos).toNat = 0 := by subst hq; rfl
    obtain ⟨n1, n2, n3⟩ := ne_facts (s := q) (by omega)
    clear hq hz hroom hlt
    by_cases hmt : m < t.size
    · have HV : Hid (upkV t m = .tuple #[.string ⟨#[]⟩, .int .i64 4]) := Lib.hid (if_pos hmt)
      have hi : (m : Int) < (t.size : Int) := by omega
      go_enter Try.func12, Try.ntmps12
      go_wp2_with fail
      go_ret2
      exact ⟨by rw [HV.out]; rfl, Below.refl _ _⟩
    · have HV : Hid (upkV t m = .tuple #[.string t, .int .i64 0]) := Lib.hid (if_neg hmt)
      have hi : ¬ (m : Int) < (t.size : Int) := by omega
      go_enter Try.func12, Try.ntmps12
      go_wp2_with fail
      go_ret2
      exact ⟨by rw [HV.out]; rfl, Below.refl _ _⟩

theorem back_walk (s : ByteArray) (m : Nat) (w : World) (hs : s.size ≤ 9223372036854775807) (hm : m < 65536) : Calls Try.prog 5 #[.string s, .int .u16 (m : Nat)] w fun e w' => e = .returned (.bool true) ∧ Below w.heap.size w w' := by
  by_cases hz : s.size ≤ 5000
  case neg =>
    have HA := Lib.hid (awake_any w)
    have h1 : (5000 : Int) < (s.size : Int) := by omega
    go_enter Try.func5, Try.ntmps5
    go_wp2_with (go_at_call 6; refine Calls.mono HA.out ?_; rintro e w1 ⟨rfl, hb1⟩; have HB1 := Lib.hid hb1; clear hb1)
    go_ret
    exact ⟨rfl, HB1.out⟩
  have h1 : ¬ (5000 : Int) < (s.size : Int) := by omega
  have HA := Lib.hid (fun W => awake_any W)
  have hroom := packB_room s
  have H1 := Lib.hid (pack_any s w (by omega))
  have H2 := Lib.hid (fun W => unpack_any (packB s) s m W (packB_unp s) (by omega) (by omega) (by omega))
  have H3 := Lib.hid (fun W => squash_any s W (by omega))
  have H4 := Lib.hid (fun W => open_any s m W (by omega) (by omega))
  clear hs hz hroom
  generalize packB s = P at *
  generalize squashB s = S at *
  by_cases hlt : m < s.size
  · have hv : upkV s m = .tuple #[.string ⟨#[]⟩, .int .i64 4] := if_pos hlt
    rw [hv] at H2 H4
    have hi : (m : Int) < (s.size : Int) := by omega
    clear hv
    go_enter Try.func5, Try.ntmps5
    go_wp2_with (first
      | (go_at_call 7; refine Calls.mono H1.out ?_; rintro e w1 ⟨rfl, hb1⟩; have HB1 := Lib.hid hb1; clear hb1)
      | (go_at_call 11; refine Calls.mono (H2.out _) ?_; rintro e w2 ⟨rfl, hb2⟩; have HB2 := Lib.hid (bel HB1.out hb2); clear hb2)
      | (go_at_call 9; refine Calls.mono (H3.out _) ?_; rintro e w3 ⟨rfl, hb3⟩; have HB3 := Lib.hid (bel HB2.out hb3); clear hb3)
      | (go_at_call 12; refine Calls.mono (H4.out _) ?_; rintro e w4 ⟨rfl, hb4⟩; have HB4 := Lib.hid (bel HB3.out hb4); clear hb4)
      | (go_at_call 6; refine Calls.mono (HA.out _) ?_; rintro e w5 ⟨rfl, hb5⟩; have HB5 := Lib.hid (bel HB4.out hb5); clear hb5))
    go_ret
    exact ⟨rfl, HB5.out⟩
  · have hv : upkV s m = .tuple #[.string s, .int .i64 0] := if_neg hlt
    rw [hv] at H2 H4
    have hi : ¬ (m : Int) < (s.size : Int) := by omega
    clear hv
    go_enter Try.func5, Try.ntmps5
    go_wp2_with (first
      | (go_at_call 7; refine Calls.mono H1.out ?_; rintro e w1 ⟨rfl, hb1⟩; have HB1 := Lib.hid hb1; clear hb1)
      | (go_at_call 11; refine Calls.mono (H2.out _) ?_; rintro e w2 ⟨rfl, hb2⟩; have HB2 := Lib.hid (bel HB1.out hb2); clear hb2)
      | (go_at_call 9; refine Calls.mono (H3.out _) ?_; rintro e w3 ⟨rfl, hb3⟩; have HB3 := Lib.hid (bel HB2.out hb3); clear hb3)
      | (go_at_call 12; refine Calls.mono (H4.out _) ?_; rintro e w4 ⟨rfl, hb4⟩; have HB4 := Lib.hid (bel HB3.out hb4); clear hb4)
      | (go_at_call 6; refine Calls.mono (HA.out _) ?_; rintro e w5 ⟨rfl, hb5⟩; have HB5 := Lib.hid (bel HB4.out hb5); clear hb5))
    go_ret
    exact ⟨rfl, HB5.out⟩

end Go.Proofs.Ytjmggbfhccdpkaa
