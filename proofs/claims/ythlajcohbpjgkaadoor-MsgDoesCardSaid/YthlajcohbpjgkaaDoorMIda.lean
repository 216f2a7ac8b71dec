/-
  strings.ContainsAny of any text at two bytes; the program's Name.
-/
import Derived.Test.YthlajcohbpjgkaaDoorMIdx
import Derived.Lib.OthersKept
namespace Go.Proofs.YthlajcohbpjgkaaDoor
open Go.RowKit Go.Shelf Go.Proofs.Mem
set_option linter.unusedVariables false

theorem get_byteAt (s : ByteArray) (j : Nat) (h : j < s.size) : (s.get! j).toNat = byteAt s j := by
  rw [byteAt_eq s j h]
  have := get_at s j h
  rw [Nat.add_zero] at this
  rw [this]
theorem cont_hi (s : ByteArray) (i k : Nat) (h : (decide (i + k < s.size) && (s.get! (i + k)).toNat / 64 == 2) = true) : i + k < s.size ∧ 128 ≤ byteAt s (i + k) := by
  rw [Bool.and_eq_true, decide_eq_true_iff, beq_iff_eq] at h
  obtain ⟨h1, h2⟩ := h
  rw [get_byteAt s _ h1] at h2
  exact ⟨h1, by omega⟩
theorem decode_cont (s : ByteArray) (i : Nat) (h : i < s.size) (ha : 128 ≤ byteAt s i) : i + (Utf8.decode s i).2 ≤ s.size ∧ ∀ j, i ≤ j → j < i + (Utf8.decode s i).2 → 128 ≤ byteAt s j := by
  have one : i + 1 ≤ s.size ∧ ∀ j, i ≤ j → j < i + 1 → 128 ≤ byteAt s j := ⟨h, fun j h1 h2 => by
    obtain rfl : j = i := by omega
    exact ha⟩
  have hb : ¬ (s.get! (i + 0)).toNat < 0x80 := by rw [Nat.add_zero, get_byteAt s i h]; omega
  unfold Utf8.decode
  dsimp only
  rw [if_neg hb]
  split
  · rename_i h2
    rw [Bool.and_eq_true] at h2
    obtain ⟨a1, a2⟩ := cont_hi s i 1 h2.2
    split
    · refine ⟨by show i + 2 ≤ _; omega, fun j h1 h3 => ?_⟩
      have h3' : j < i + 2 := h3
      rcases Nat.lt_or_ge i j with h | h
      · obtain rfl : j = i + 1 := by omega
        exact a2
      · obtain rfl : j = i := by omega
        exact ha
    · exact one
  · split
    · rename_i h2
      rw [Bool.and_eq_true, Bool.and_eq_true] at h2
      obtain ⟨a1, a2⟩ := cont_hi s i 1 h2.1.2
      obtain ⟨b1, b2⟩ := cont_hi s i 2 h2.2
      split
      · refine ⟨by show i + 3 ≤ _; omega, fun j h1 h3 => ?_⟩
        have h3' : j < i + 3 := h3
        rcases Nat.lt_or_ge i j with h | h
        · rcases Nat.lt_or_ge (i + 1) j with h' | h'
          · obtain rfl : j = i + 2 := by omega
            exact b2
          · obtain rfl : j = i + 1 := by omega
            exact a2
        · obtain rfl : j = i := by omega
          exact ha
      · exact one
    · split
      · rename_i h2
        rw [Bool.and_eq_true, Bool.and_eq_true, Bool.and_eq_true] at h2
        obtain ⟨a1, a2⟩ := cont_hi s i 1 h2.1.1.2
        obtain ⟨b1, b2⟩ := cont_hi s i 2 h2.1.2
        obtain ⟨c1, c2⟩ := cont_hi s i 3 h2.2
        split
        · refine ⟨by show i + 4 ≤ _; omega, fun j h1 h3 => ?_⟩
          have h3' : j < i + 4 := h3
          rcases Nat.lt_or_ge i j with h | h
          · rcases Nat.lt_or_ge (i + 1) j with h' | h'
            · rcases Nat.lt_or_ge (i + 2) j with h'' | h''
              · obtain rfl : j = i + 3 := by omega
                exact c2
              · obtain rfl : j = i + 2 := by omega
                exact b2
            · obtain rfl : j = i + 1 := by omega
              exact a2
          · obtain rfl : j = i := by omega
            exact ha
        · exact one
      · exact one

def NoSep (s : ByteArray) (i : Nat) : Prop := ∀ j, j < i → byteAt s j ≠ 0 ∧ byteAt s j ≠ 47
theorem ixb_no (c : Nat) (h : c < 128) (h0 : c ≠ 0) (h1 : c ≠ 47) : Lib.indexByte (⟨#[0, 47]⟩ : ByteArray).data.toList (c : Int).toNat.toUInt8 = -1 := by
  have e : ∀ c : Fin 128, c.val ≠ 0 → c.val ≠ 47 → Lib.indexByte [0, 47] c.val.toUInt8 = -1 := by decide
  exact e ⟨c, h⟩ h0 h1
theorem ixb_yes (c : Nat) (h : c = 0 ∨ c = 47) : 0 ≤ Lib.indexByte (⟨#[0, 47]⟩ : ByteArray).data.toList (c : Int).toNat.toUInt8 := by
  rcases h with rfl | rfl <;> decide
theorem irune_no (c : Nat) (w : World) (h : c < 128) (h0 : c ≠ 0) (h1 : c ≠ 47) :
    Calls Tryd.prog 66 #[.string ⟨#[0, 47]⟩, .int .i32 c] w fun e w' => e = .returned (.int .i64 (-1)) ∧ w' = w := by
  have := Tryd.strings_IndexRune_ascii ⟨#[0, 47]⟩ c w (by omega) (by omega)
  rw [ixb_no c h h0 h1] at this
  exact this
theorem irune_yes (c : Nat) (w : World) (h : c = 0 ∨ c = 47) :
    Calls Tryd.prog 66 #[.string ⟨#[0, 47]⟩, .int .i32 c] w fun e w' => ∃ i : Int, e = .returned (.int .i64 i) ∧ 0 ≤ i ∧ w' = w :=
  (Tryd.strings_IndexRune_ascii ⟨#[0, 47]⟩ c w (by omega) (by omega)).mono fun e w' ⟨he, hw⟩ => ⟨_, he, ixb_yes c h, hw⟩

def IdxPost (s : ByteArray) (w : World) (e : Ending) (w' : World) : Prop := ∃ i : Int, e = .returned (.int .i64 i) ∧ decide (0 ≤ i) = !nameC s ∧ Below w.heap.size w w'

set_option maxRecDepth 100000 in
set_option maxHeartbeats 4000000 in
theorem iany_short (s : ByteArray) (w : World) (h8 : s.size ≤ 8) :
    Calls Tryd.prog 63 #[.string s, .string ⟨#[0, 47]⟩] w (IdxPost s w) := by
  have h8z : decide ((8 : Int) < (s.size : Int)) = false := decide_eq_false (by omega)
  have H8 := Lib.hid h8z
  clear h8z
  go_enter Tryd.func63, Tryd.ntmps63
  go_wp2_with (go_at_call 67; refine (Tryd.strings_shouldUseASCIISet _ _).mono ?_; rw [H8.out]; rintro e w1 ⟨rfl, rfl⟩)
  go_loopg [9, 10] s.size (fun g _ _ wx => ∃ i : Nat, i + g = s.size ∧ wx.heap[w1.heap.size]? = some (.stringIter s i) ∧ Hid (NoSep s i) ∧ Hid (Below w1.heap.size w1 wx))
  case atStart => exact ⟨0, by omega, heap_alloc_new w1 _, Lib.hid (fun j hj => absurd hj (Nat.not_lt_zero _)), Lib.hid ((Below.refl _ _).alloc (Nat.le_refl _) _)⟩
  case round =>
    obtain ⟨i, hig, hit, hno, hB⟩ := hrel
    cases gk with
    | zero =>
      obtain rfl : i = s.size := by omega
      have hnx := fun ty => Lib.run_next_end_at (P := Tryd.prog) _ w1.heap.size s s.size ty hit (by omega)
      go_wp2_with fail
      go_ret
      exact ⟨_, rfl, by rw [nameC_at s hno.out]; rfl, hB.out⟩
    | succ g =>
      have hi : i < s.size := by omega
      obtain ⟨c, hc⟩ : ∃ c, c = byteAt s i := ⟨_, rfl⟩
      have hit2 := fun p => Lib.iterAt_heap _ w1.heap.size s i p hit
      have hB2 := fun p => Lib.below_iterAt hB.out (Nat.le_refl _) s p
      have HB2 := Lib.hid hB2
      have HI2 := Lib.hid hit2
      clear hB2 hit2
      by_cases h128 : c < 128
      · have hnx := fun ty => Lib.run_next_ascii_at (P := Tryd.prog) _ w1.heap.size s i ty hit hi (by rw [← byteAt_eq s i hi, ← hc]; exact h128)
        rw [← byteAt_eq s i hi, ← hc] at hnx
        have HC := Lib.hid hc
        clear hc
        by_cases hs : c = 0 ∨ c = 47
        · have HN : Hid (nameC s = false) := Lib.hid (nameC_no s i hi (by rw [← HC.out]; exact hs))
          have HS := Lib.hid hs
          clear hs
          go_wp2_with (go_at_call 66; refine (irune_yes c _ HS.out).mono ?_; rintro e w2 ⟨q, rfl, hq, rfl⟩)
          go_ret
          exact ⟨_, rfl, by rw [HN.out]; exact decide_eq_true (by omega), HB2.out _⟩
        · have HS := Lib.hid hs
          have HN : Hid (NoSep s (i + 1)) := Lib.hid (fun j hj => by
            rcases Nat.lt_or_ge j i with h | h
            · exact hno.out j h
            · obtain rfl : j = i := by omega
              rw [← HC.out]
              exact ⟨fun e => HS.out (.inl e), fun e => HS.out (.inr e)⟩)
          clear hs
          go_wp2_with (go_at_call 66; refine (irune_no c _ h128 (fun e => HS.out (.inl e)) (fun e => HS.out (.inr e))).mono ?_; rintro e w2 ⟨rfl, rfl⟩)
          go_roundg g
          case measure => omega
          case rel => exact ⟨i + 1, by omega, HI2.out _, HN, Lib.hid (HB2.out _)⟩
      · have hh := decode_high s i hi (by rw [← byteAt_eq s i hi, ← hc]; omega)
        have hl := decode_le s i
        obtain ⟨hce, hcn⟩ := decode_cont s i hi (by rw [← hc]; omega)
        have hnx := fun ty => Lib.run_next_any_at (P := Tryd.prog) _ w1.heap.size s i ty hit hi
        obtain ⟨⟨r, wd⟩, hrd⟩ : ∃ t, t = Utf8.decode s i := ⟨_, rfl⟩
        rw [← hrd] at hh hl hce hcn hnx
        dsimp only at hh hl hce hcn hnx
        have HN : Hid (NoSep s (i + wd)) := Lib.hid (fun j hj => by
            rcases Nat.lt_or_ge j i with h | h
            · exact hno.out j h
            · have := hcn j h hj
              omega)
        obtain ⟨hh1, hh2⟩ := hh
        have HC := Lib.hid hc
        have HT := Lib.hid hit
        clear hc hrd hcn hit
        go_wp2_with (go_at_call 66; refine (irune_any r _ (by omega) (by omega)).mono ?_; rintro e w2 ⟨rfl, hb2⟩)
        go_roundg (s.size - (i + wd))
        case measure => omega
        case rel => exact ⟨i + wd, by omega, (hb2.block _ (by rw [Lib.iterAt_size]; exact (Array.getElem?_eq_some_iff.1 HT.out).1)).trans (HI2.out _), HN, Lib.hid (bel (HB2.out _) hb2)⟩

theorem idxany_eq (l : List UInt8) : decide (0 ≤ Lib.indexAny l [0, 47]) = !(l.all fun b => decide (b ≠ 0) && decide (b ≠ 47)) := by
  induction l with
  | nil => rfl
  | cons b l ih =>
    have hge := Lib.indexAny_ge [0, 47] l
    rw [Lib.indexAny, List.all_cons]
    by_cases hb : ([0, 47] : List UInt8).contains b = true
    · rw [if_pos hb]
      have h2 : b = 0 ∨ b = 47 := by simpa using hb
      have : (decide (b ≠ 0) && decide (b ≠ 47)) = false := by rcases h2 with rfl | rfl <;> rfl
      rw [this]
      rfl
    · rw [if_neg hb]
      have h2 : ¬ (b = 0 ∨ b = 47) := by simpa using hb
      have : (decide (b ≠ 0) && decide (b ≠ 47)) = true := by rw [decide_eq_true (show b ≠ 0 from fun e => h2 (.inl e)), decide_eq_true (show b ≠ 47 from fun e => h2 (.inr e))]; rfl
      rw [this, Bool.true_and, ← ih]
      by_cases h1 : Lib.indexAny l [0, 47] = -1
      · rw [h1]; rfl
      · rw [if_neg (by rw [beq_iff_eq]; exact h1), decide_eq_true (by omega), decide_eq_true (by omega)]
theorem set129 : (Tryd.prog.info? 129).map (fun i => (i.zero, i.size)) = some (some (.agg (Array.replicate 256 (.bool false))), 256) := by kernel_rfl
theorem zero129 (w : World) : (zeroValue 129).run Tryd.prog w = .ok (.agg (Array.replicate 256 (.bool false))) w := (zero_of_info set129).1 w
theorem ascii2 : ∀ (j : Nat) b, (⟨#[0, 47]⟩ : ByteArray).data.toList[j]? = some b → b.toNat < 128 := by
  intro j b h
  have hm : b ∈ ([0, 47] : List UInt8) := List.mem_of_getElem? h
  have h2 : b = 0 ∨ b = 47 := by simpa using hm
  rcases h2 with rfl | rfl <;> decide
theorem iany_any (s : ByteArray) (w : World) (hs : s.size < 4294967281) :
    Calls Tryd.prog 63 #[.string s, .string ⟨#[0, 47]⟩] w (IdxPost s w) := by
  rcases Nat.lt_or_ge 8 s.size with h | h
  · refine (Tryd.strings_IndexAny_long zero129 s ⟨#[0, 47]⟩ w (by decide) h hs (by decide) ascii2).mono fun e w' ⟨he, hw⟩ => ⟨_, he, idxany_eq _, ?_⟩
    rw [hw]
    exact ((Below.refl _ _).alloc (Nat.le_refl _) _).alloc (by simp) _
  · exact iany_short s w h

set_option maxHeartbeats 1000000 in
theorem cany_any (s : ByteArray) (w : World) (b : Bool) (hb : nameC s = b) (hs : s.size < 4294967281) :
    Calls Tryd.prog 52 #[.string s, .string ⟨#[0, 47]⟩] w fun e w' => e = .returned (.bool (!b)) ∧ Below w.heap.size w w' := by
  have HC := Lib.hid (fun W => iany_any s W hs)
  have HB := Lib.hid hb
  clear hb
  go_enter Tryd.func52, Tryd.ntmps52
  go_wp2_with (go_at_call 63; refine (HC.out _).mono ?_; rintro e w1 ⟨i, rfl, hi, hb1⟩)
  go_ret
  exact ⟨by rw [← HB.out, ← hi]; rfl, hb1⟩

set_option maxHeartbeats 1000000 in
theorem pname_any (s : ByteArray) (w : World) (b : Bool) (hb : nameB s = b) (hs : s.size ≤ maxLen) :
    Calls Tryd.prog 31 #[.string s] w fun e w' => e = .returned (.bool b) ∧ Below w.heap.size w w' := by
  unfold maxLen at hs
  have b46 : (s.toList == [46]) = decide (s = ⟨#[46]⟩) := by rw [← str_beq, Lib.toList_data ⟨#[46]⟩]
  have b4646 : (s.toList == [46, 46]) = decide (s = ⟨#[46, 46]⟩) := by rw [← str_beq, Lib.toList_data ⟨#[46, 46]⟩]
  by_cases h0 : s.size = 0
  case pos =>
    have e0 : s.toList.isEmpty = true := by rw [List.isEmpty_iff, str_nil]; exact h0
    have HF : Hid (false = b) := Lib.hid (by rw [← hb, nameB_eq, decide_eq_false (fun h => h h0)]; rfl)
    clear h0 b46 b4646 hb
    go_enter Tryd.func31, Tryd.ntmps31
    go_wp2_with fail
    go_ret
    exact ⟨by rw [← HF.out]; rfl, Below.refl _ _⟩
  have e0 : s.toList.isEmpty = false := by rw [Bool.eq_false_iff, ne_eq, List.isEmpty_iff, str_nil]; exact h0
  by_cases h31 : s.size ≤ 31
  case neg =>
    have d31 : decide ((s.size : Int) ≤ 31) = false := decide_eq_false (by omega)
    have d32 : decide (s.size ≤ 31) = false := decide_eq_false (by omega)
    have HF : Hid (false = b) := Lib.hid (by rw [← hb, nameB_eq, decide_eq_false h31]; simp)
    clear b46 b4646 hb
    go_enter Tryd.func31, Tryd.ntmps31
    go_wp2_with fail
    go_ret
    exact ⟨by rw [← HF.out]; rfl, Below.refl _ _⟩
  have d31 : decide ((s.size : Int) ≤ 31) = true := decide_eq_true (by omega)
  have d32 : decide (s.size ≤ 31) = true := decide_eq_true (by omega)
  by_cases h1 : s = ⟨#[46]⟩
  case pos =>
    have HF : Hid (false = b) := Lib.hid (by rw [← hb, h1]; decide)
    rw [decide_eq_true h1] at b46
    have c46 : (s.toList != [46]) = false := by rw [bne, b46]; rfl
    clear h1 h0 b4646 hb
    go_enter Tryd.func31, Tryd.ntmps31
    go_wp2_with fail
    go_ret
    exact ⟨by rw [← HF.out]; rfl, Below.refl _ _⟩
  rw [decide_eq_false h1] at b46
  have c46 : (s.toList != [46]) = true := by rw [bne, b46]; rfl
  by_cases h2 : s = ⟨#[46, 46]⟩
  case pos =>
    have HF : Hid (false = b) := Lib.hid (by rw [← hb, h2]; decide)
    rw [decide_eq_true h2] at b4646
    have c4646 : (s.toList != [46, 46]) = false := by rw [bne, b4646]; rfl
    clear h1 h2 h0 hb
    go_enter Tryd.func31, Tryd.ntmps31
    go_wp2_with fail
    go_ret
    exact ⟨by rw [← HF.out]; rfl, Below.refl _ _⟩
  rw [decide_eq_false h2] at b4646
  have c4646 : (s.toList != [46, 46]) = true := by rw [bne, b4646]; rfl
  have hf : nameC s = b := by rw [← hb, nameB_eq, decide_eq_true h0, decide_eq_true h31, decide_eq_true h1, decide_eq_true h2]; rfl
  have HC := Lib.hid (fun W => cany_any s W b hf (by omega))
  clear h1 h2 h0 hf hb
  cases b with
  | true =>
    go_enter Tryd.func31, Tryd.ntmps31
    go_wp2_with (go_at_call 52; refine (HC.out _).mono ?_; rintro e w1 ⟨rfl, hb1⟩)
    go_ret
    exact ⟨rfl, hb1⟩
  | false =>
    go_enter Tryd.func31, Tryd.ntmps31
    go_wp2_with (go_at_call 52; refine (HC.out _).mono ?_; rintro e w1 ⟨rfl, hb1⟩)
    go_ret
    exact ⟨rfl, hb1⟩

end Go.Proofs.YthlajcohbpjgkaaDoor
