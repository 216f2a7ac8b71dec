/-
  The document's Read: behind its switch, and whole. (Printed by genrre.py.)
-/
import Derived.Test.YthlajcohbpjgkaaDoorMRrd
import Derived.Deep.CutRange
import Derived.Deep.CutBlock
namespace Go.Proofs.YthlajcohbpjgkaaDoor
open Go.RowKit Go.Shelf Go.Proofs.Mem
set_option linter.unusedVariables false

theorem own_less {w : World} {B B' n size : Nat} {e : TypeId} {v : Value} {xs : List Value} (h : w.ownsRow B e size v n xs) (hB : B' ≤ B) : w.ownsRow B' e size v n xs := by
  refine ⟨h.1, ?_⟩
  rcases h.2 with h | ⟨g, cap, cur, e, hb, r⟩
  · exact .inl h
  · exact .inr ⟨g, cap, cur, e, Nat.le_trans hB hb, r⟩
theorem strs_own {w : World} {B : Nat} {v : Value} {l : List ByteArray} (h : w.ownsRow B 9 1 v l.length (l.map .string)) : Strs w w.heap.size v l := strs_of_own h
theorem wrap_i64 {n : Int} (h0 : 0 ≤ n) (h : n < 9223372036854775808) : IntKind.i64.wrap n = n := by simp [IntKind.wrap, IntKind.bits, IntKind.signed]; omega
theorem rr_head (t : ByteArray) (k : Int) (h : (byteAt t 0 : Nat) = k) : ∀ h0 : 0 < t.size, (t[0].toNat : Int) = k := by
  intro h0
  rw [← h, byteAt_eq t 0 h0]
/-- How offer and list end, seen from Read. -/
def CandP (s : ByteArray) (w : World) (e : Ending) (w' : World) : Prop :=
  ∃ kv ov ok m, e = .returned (.tuple #[msgA m kv ov, .bool ok]) ∧ w'.ownsRow w.heap.size 9 1 kv m.keys.length (m.keys.map .string) ∧ w'.ownsRow w.heap.size 40 2 ov m.objs.length (cellsO m.objs) ∧ (∀ m0, readM s = some m0 → ok = true ∧ m0 = m) ∧ (ok = true → m.name.size ≤ maxLen) ∧ Below w.heap.size w w'
/-- What stands behind the switch. -/
def RrP (s : ByteArray) (w : World) (five : Value) (wx : World) : Prop :=
  ∃ ok m A1 n1 d1 A2 n2 d2, five = .bool ok ∧ MB wx w.heap.size #[.int .i64 0, .string ⟨#[]⟩, .string ⟨#[]⟩, .slice none 0 0, .slice none 0 0, .int .i64 0] ∧ MB wx (w.heap.size + 1) #[.int .i64 m.kind, .string m.name, .string m.root, .slice A1 n1 d1, .slice A2 n2 d2, .int .i64 m.err] ∧ wx.ownsRow (w.heap.size + 2) 9 1 (.slice A1 n1 d1) m.keys.length (m.keys.map .string) ∧ wx.ownsRow (w.heap.size + 2) 40 2 (.slice A2 n2 d2) m.objs.length (cellsO m.objs) ∧ (∀ m0, readM s = some m0 → ok = true ∧ m0 = m) ∧ (ok = true → m.name.size ≤ maxLen) ∧ Below w.heap.size w wx

theorem takeT_name (s : ByteArray) : (takeT s).1.size ≤ s.size := by
  unfold takeT
  split
  · exact Nat.zero_le _
  · split
    · exact Nat.zero_le _
    · split
      · exact Nat.zero_le _
      · rw [ByteArray.size_extract]; omega
theorem offer_cand (s : ByteArray) (w : World) (hs : 0 < s.size) (hz : s.size ≤ 5000) (h1 : byteAt s 0 = 1) :
    Calls Tryd.prog 28 #[.string (s.extract 1 s.size)] w (CandP s w) := by
  have hsz : (s.extract 1 s.size).size ≤ 5000 := by rw [ByteArray.size_extract]; omega
  refine (offer_any (s.extract 1 s.size) w (by omega)).mono fun e w' h => ?_
  obtain ⟨⟨v, rfl, kv, ov, rfl, h2, h3⟩, h4⟩ := h
  refine ⟨kv, ov, _, _, rfl, h2, h3, cand_1 s hs h1, fun _ => ?_, h4⟩
  have := takeT_name (s.extract 1 s.size)
  unfold offM maxLen
  split
  · exact Nat.zero_le _
  · show (takeT (s.extract 1 s.size)).1.size ≤ _
    omega
theorem list_cand (s : ByteArray) (k : Int) (w : World) (hs : 0 < s.size) (hz : s.size ≤ 5000) (hk : (byteAt s 0 : Nat) = k) (h1 : k = 2 ∨ k = 3) :
    Calls Tryd.prog 29 #[.string (s.extract 1 s.size), .int .i64 k] w (CandP s w) := by
  have hsz : (s.extract 1 s.size).size ≤ 5000 := by rw [ByteArray.size_extract]; omega
  have hL : Calls Tryd.prog 29 #[.string (s.extract 1 s.size), .int .i64 k] w (LstP k (listL k (s.extract 1 s.size)) w) := by
    rcases h1 with rfl | rfl
    · exact list_2 _ w (by omega)
    · exact list_3 _ w (by omega)
  have hc := cand_l s hs (by omega)
  rw [hk] at hc
  refine hL.mono fun e w' h => ?_
  obtain ⟨h, h4⟩ := h
  cases hl : listL k (s.extract 1 s.size) with
  | none =>
    rw [hl] at h
    obtain ⟨v, m, rfl, kv, ov, rfl, h2, h3⟩ := h
    refine ⟨kv, ov, _, m, rfl, own_less h2 (Nat.le_succ _), own_less h3 (Nat.le_succ _), fun m0 hr => ?_, fun h => (by cases h), h4⟩
    obtain ⟨y, hy, _⟩ := hc m0 hr
    rw [hl] at hy
    cases hy
  | some y =>
    rw [hl] at h
    obtain ⟨v, rfl, kv, ov, rfl, h2, h3⟩ := h
    refine ⟨kv, ov, _, _, rfl, own_less h2 (Nat.le_succ _), own_less h3 (Nat.le_succ _), fun m0 hr => ?_, fun _ => ?_, h4⟩
    · obtain ⟨y', hy, rfl⟩ := hc m0 hr
      rw [hl] at hy
      cases hy
      exact ⟨rfl, rfl⟩
    · unfold mkL
      split <;> exact Nat.zero_le _

/-- Six stores leave another block alone. -/
theorem mb6o {w : World} {b c : Nat} {cs : Array Value} {v0 v1 v2 v3 v4 v5 : Value} (h : MB w c cs) (hb : c ≠ b) :
    MB ((((((w.setCell ⟨b, 0, none⟩ v0).setCell ⟨b, 1, none⟩ v1).setCell ⟨b, 2, none⟩ v2).setCell ⟨b, 3, none⟩ v3).setCell ⟨b, 4, none⟩ v4).setCell ⟨b, 5, none⟩ v5) c cs := by
  have g : ∀ {u : World} {i : Nat} {v : Value}, MB u c cs → MB (u.setCell ⟨b, i, none⟩ v) c cs := fun {u i v} hu =>
    ((set_grown u ⟨b, i, none⟩ v).block c hu.lt (fun e => hb (Option.some.inj e).symm.symm)).trans hu
  exact g (g (g (g (g (g h)))))

theorem rr4 {s : ByteArray} {w w2 : World} {n c : Nat} (HM2 : MB w2 w.heap.size #[.int .i64 0, .string ⟨#[]⟩, .string ⟨#[]⟩, .slice none 0 0, .slice none 0 0, .int .i64 0]) (HN2 : MB w2 (w.heap.size + 1) #[.int .i64 0, .string ⟨#[]⟩, .string ⟨#[]⟩, .slice none 0 0, .slice none 0 0, .int .i64 0]) (HB2 : Below w.heap.size w w2) (HC : ∀ m0, readM s = some m0 → decide (c = 0) = true ∧ m0 = M4 (min n 100)) :
    RrP s w (.bool ((c : Int) == 0)) ((((((w2.setCell ⟨w.heap.size + 1, 0, none⟩ (.int .i64 4)).setCell ⟨w.heap.size + 1, 1, none⟩ (.string ⟨#[]⟩)).setCell ⟨w.heap.size + 1, 2, none⟩ (.string ⟨#[]⟩)).setCell ⟨w.heap.size + 1, 3, none⟩ (.slice none 0 0)).setCell ⟨w.heap.size + 1, 4, none⟩ (.slice none 0 0)).setCell ⟨w.heap.size + 1, 5, none⟩ (.int .i64 (min (n : Int) 100))) := by
  rw [show (min (n : Int) 100) = ((min n 100 : Nat) : Int) by omega]
  refine ⟨((c : Int) == 0), M4 (min n 100), none, 0, 0, none, 0, 0, rfl, mb6o HM2 (by omega), mb6 HN2, World.ownsRow_nil _ _ _ _, World.ownsRow_nil _ _ _ _, fun m0 hr => ?_, fun h => Nat.zero_le _, bel6 HB2 (by omega)⟩
  have h := HC m0 hr
  refine ⟨?_, h.2⟩
  have := of_decide_eq_true h.1
  subst this
  rfl

set_option maxRecDepth 100000 in
set_option maxHeartbeats 4000000 in
theorem rread_pos (s : ByteArray) (w : World) (hs : 0 < s.size) (hz : s.size ≤ 5000) :
    Calls Tryd.prog 13 #[.string s] w (ReadP (readM s) w) := by
  have e0 : s.toList.isEmpty = false := by rw [Bool.eq_false_iff, ne_eq, List.isEmpty_iff, str_nil]; omega
  obtain ⟨kb, hkb⟩ : ∃ kb : Int, (byteAt s 0 : Nat) = kb := ⟨_, rfl⟩
  have hkn : 0 ≤ kb ∧ kb ≤ 255 := by have := byteAt_lt s 0; omega
  have hk := rr_head s kb hkb
  have hwr : IntKind.i64.wrap kb = kb := wrap_i64 (by omega) (by omega)
  have HKB := Lib.hid hkb
  have HKN := Lib.hid hkn
  have HS := Lib.hid hs
  have HZ := Lib.hid hz
  have k1 : (1 : Int) ≤ (s.size : Int) := by omega
  clear hkb hkn hz
  go_enter Tryd.func13, Tryd.ntmps13
  go_upto_block 0 with (fail)
  go_cut [5, 6, 7, 8] from 16 to 50 (fun five n6 n7 n8 wx => Hid (RrP s w five wx))
  case first =>
    have HN1 : Hid (MB ((w.alloc (.cells #[.int .i64 0, .string ⟨#[]⟩, .string ⟨#[]⟩, .slice none 0 0, .slice none 0 0, .int .i64 0] 26)).alloc (.cells #[.int .i64 0, .string ⟨#[]⟩, .string ⟨#[]⟩, .slice none 0 0, .slice none 0 0, .int .i64 0] 26)) (w.heap.size + 1) #[.int .i64 0, .string ⟨#[]⟩, .string ⟨#[]⟩, .slice none 0 0, .slice none 0 0, .int .i64 0]) := Lib.hid (by have h := heap_alloc_new (w.alloc (.cells #[.int .i64 0, .string ⟨#[]⟩, .string ⟨#[]⟩, .slice none 0 0, .slice none 0 0, .int .i64 0] 26)) (.cells #[.int .i64 0, .string ⟨#[]⟩, .string ⟨#[]⟩, .slice none 0 0, .slice none 0 0, .int .i64 0] 26); simpa [MB] using h)
    have HM1 : Hid (MB ((w.alloc (.cells #[.int .i64 0, .string ⟨#[]⟩, .string ⟨#[]⟩, .slice none 0 0, .slice none 0 0, .int .i64 0] 26)).alloc (.cells #[.int .i64 0, .string ⟨#[]⟩, .string ⟨#[]⟩, .slice none 0 0, .slice none 0 0, .int .i64 0] 26)) w.heap.size #[.int .i64 0, .string ⟨#[]⟩, .string ⟨#[]⟩, .slice none 0 0, .slice none 0 0, .int .i64 0]) := Lib.hid ((Lib.alloc_old _ _ _ (by simp)).trans (heap_alloc_new w _))
    have HB1 : Hid (Below w.heap.size w ((w.alloc (.cells #[.int .i64 0, .string ⟨#[]⟩, .string ⟨#[]⟩, .slice none 0 0, .slice none 0 0, .int .i64 0] 26)).alloc (.cells #[.int .i64 0, .string ⟨#[]⟩, .string ⟨#[]⟩, .slice none 0 0, .slice none 0 0, .int .i64 0] 26))) := Lib.hid (by go_grown)
    generalize hW1 : ((w.alloc (.cells #[.int .i64 0, .string ⟨#[]⟩, .string ⟨#[]⟩, .slice none 0 0, .slice none 0 0, .int .i64 0] 26)).alloc (.cells #[.int .i64 0, .string ⟨#[]⟩, .string ⟨#[]⟩, .slice none 0 0, .slice none 0 0, .int .i64 0] 26)) = W1 at *
    clear hW1
    have HZ1 : Hid (w.heap.size + 2 ≤ W1.heap.size) := Lib.hid (by have := HN1.out.lt; omega)
    have hz1 : w.heap.size < W1.heap.size := HM1.out.lt
    have hy1 : w.heap.size + 1 < W1.heap.size := HN1.out.lt
    have oc0 : W1.cell? ⟨w.heap.size, 0, none⟩ = some (.int .i64 0) := HM1.out.cell 0; have of0 := HM1.out.froz 0; have oc1 : W1.cell? ⟨w.heap.size, 1, none⟩ = some (.string ⟨#[]⟩) := HM1.out.cell 1; have of1 := HM1.out.froz 1; have oc2 : W1.cell? ⟨w.heap.size, 2, none⟩ = some (.string ⟨#[]⟩) := HM1.out.cell 2; have of2 := HM1.out.froz 2; have oc3 : W1.cell? ⟨w.heap.size, 3, none⟩ = some (.slice none 0 0) := HM1.out.cell 3; have of3 := HM1.out.froz 3; have oc4 : W1.cell? ⟨w.heap.size, 4, none⟩ = some (.slice none 0 0) := HM1.out.cell 4; have of4 := HM1.out.froz 4; have oc5 : W1.cell? ⟨w.heap.size, 5, none⟩ = some (.int .i64 0) := HM1.out.cell 5; have of5 := HM1.out.froz 5
    have uc0 : W1.cell? ⟨w.heap.size + 1, 0, none⟩ = some (.int .i64 0) := HN1.out.cell 0; have uf0 := HN1.out.froz 0; have uc1 : W1.cell? ⟨w.heap.size + 1, 1, none⟩ = some (.string ⟨#[]⟩) := HN1.out.cell 1; have uf1 := HN1.out.froz 1; have uc2 : W1.cell? ⟨w.heap.size + 1, 2, none⟩ = some (.string ⟨#[]⟩) := HN1.out.cell 2; have uf2 := HN1.out.froz 2; have uc3 : W1.cell? ⟨w.heap.size + 1, 3, none⟩ = some (.slice none 0 0) := HN1.out.cell 3; have uf3 := HN1.out.froz 3; have uc4 : W1.cell? ⟨w.heap.size + 1, 4, none⟩ = some (.slice none 0 0) := HN1.out.cell 4; have uf4 := HN1.out.froz 4; have uc5 : W1.cell? ⟨w.heap.size + 1, 5, none⟩ = some (.int .i64 0) := HN1.out.cell 5; have uf5 := HN1.out.froz 5
    by_cases h1 : kb = 1
    · subst h1
      have HCA := Lib.hid (fun W => offer_cand s W HS.out HZ.out (by have := HKB.out; omega))
      go_wp2_with (go_at_call 28; refine Calls.mono (HCA.out _) ?_; rintro e w2 ⟨kv, ov, ok, m, rfl, hk2, ho2, hc2, hn2, hb2⟩; obtain ⟨A1, n1, d1, rfl⟩ := own_slice hk2; obtain ⟨A2, n2, d2, rfl⟩ := own_slice ho2; unfold msgA; have HK2 := Lib.hid (own_less hk2 HZ1.out); have HO2 := Lib.hid (own_less ho2 HZ1.out); have HC2 := Lib.hid hc2; have HNM2 := Lib.hid hn2; have hb3 : Below W1.heap.size W1 w2 := bel (by go_grown) hb2; have HN2 : Hid (MB w2 (w.heap.size + 1) #[.int .i64 0, .string ⟨#[]⟩, .string ⟨#[]⟩, .slice none 0 0, .slice none 0 0, .int .i64 0]) := Lib.hid (HN1.out.on hb3); have HM2 : Hid (MB w2 w.heap.size #[.int .i64 0, .string ⟨#[]⟩, .string ⟨#[]⟩, .slice none 0 0, .slice none 0 0, .int .i64 0]) := Lib.hid (HM1.out.on hb3); have hz2 : w.heap.size < w2.heap.size := HM2.out.lt; have hy2 : w.heap.size + 1 < w2.heap.size := HN2.out.lt; have HB2 : Hid (Below w.heap.size w w2) := Lib.hid (bel HB1.out hb3); clear hb3; have pc0 : w2.cell? ⟨w.heap.size, 0, none⟩ = some (.int .i64 0) := HM2.out.cell 0; have pf0 := HM2.out.froz 0; have pc1 : w2.cell? ⟨w.heap.size, 1, none⟩ = some (.string ⟨#[]⟩) := HM2.out.cell 1; have pf1 := HM2.out.froz 1; have pc2 : w2.cell? ⟨w.heap.size, 2, none⟩ = some (.string ⟨#[]⟩) := HM2.out.cell 2; have pf2 := HM2.out.froz 2; have pc3 : w2.cell? ⟨w.heap.size, 3, none⟩ = some (.slice none 0 0) := HM2.out.cell 3; have pf3 := HM2.out.froz 3; have pc4 : w2.cell? ⟨w.heap.size, 4, none⟩ = some (.slice none 0 0) := HM2.out.cell 4; have pf4 := HM2.out.froz 4; have pc5 : w2.cell? ⟨w.heap.size, 5, none⟩ = some (.int .i64 0) := HM2.out.cell 5; have pf5 := HM2.out.froz 5; have qc0 : w2.cell? ⟨w.heap.size + 1, 0, none⟩ = some (.int .i64 0) := HN2.out.cell 0; have qf0 := HN2.out.froz 0; have qc1 : w2.cell? ⟨w.heap.size + 1, 1, none⟩ = some (.string ⟨#[]⟩) := HN2.out.cell 1; have qf1 := HN2.out.froz 1; have qc2 : w2.cell? ⟨w.heap.size + 1, 2, none⟩ = some (.string ⟨#[]⟩) := HN2.out.cell 2; have qf2 := HN2.out.froz 2; have qc3 : w2.cell? ⟨w.heap.size + 1, 3, none⟩ = some (.slice none 0 0) := HN2.out.cell 3; have qf3 := HN2.out.froz 3; have qc4 : w2.cell? ⟨w.heap.size + 1, 4, none⟩ = some (.slice none 0 0) := HN2.out.cell 4; have qf4 := HN2.out.froz 4; have qc5 : w2.cell? ⟨w.heap.size + 1, 5, none⟩ = some (.int .i64 0) := HN2.out.cell 5; have qf5 := HN2.out.froz 5; clear hk2 ho2 hc2 hn2 hb2)
      go_meet
      exact Lib.hid ⟨ok, m, A1, n1, d1, A2, n2, d2, rfl, mb6o HM2.out (by omega), mb6 HN2.out, own6 HK2.out (by omega), own6 HO2.out (by omega), HC2.out, HNM2.out, bel6 HB2.out (by omega)⟩
    · by_cases h2 : kb = 2 ∨ kb = 3
      · have HCA := Lib.hid (fun W => list_cand s kb W HS.out HZ.out HKB.out h2)
        have d1 : (kb == 1) = false := beq_eq_false_iff_ne.2 h1
        rcases h2 with rfl | rfl
        · clear h1
          go_upto_region 10 with (fail)
          go_region_with (go_at_call 29; refine Calls.mono (HCA.out _) ?_; rintro e w2 ⟨kv, ov, ok, m, rfl, hk2, ho2, hc2, hn2, hb2⟩; obtain ⟨A1, n1, d1, rfl⟩ := own_slice hk2; obtain ⟨A2, n2, d2, rfl⟩ := own_slice ho2; unfold msgA; have HK2 := Lib.hid (own_less hk2 HZ1.out); have HO2 := Lib.hid (own_less ho2 HZ1.out); have HC2 := Lib.hid hc2; have HNM2 := Lib.hid hn2; have hb3 : Below W1.heap.size W1 w2 := bel (by go_grown) hb2; have HN2 : Hid (MB w2 (w.heap.size + 1) #[.int .i64 0, .string ⟨#[]⟩, .string ⟨#[]⟩, .slice none 0 0, .slice none 0 0, .int .i64 0]) := Lib.hid (HN1.out.on hb3); have HM2 : Hid (MB w2 w.heap.size #[.int .i64 0, .string ⟨#[]⟩, .string ⟨#[]⟩, .slice none 0 0, .slice none 0 0, .int .i64 0]) := Lib.hid (HM1.out.on hb3); have hz2 : w.heap.size < w2.heap.size := HM2.out.lt; have hy2 : w.heap.size + 1 < w2.heap.size := HN2.out.lt; have HB2 : Hid (Below w.heap.size w w2) := Lib.hid (bel HB1.out hb3); clear hb3; have pc0 : w2.cell? ⟨w.heap.size, 0, none⟩ = some (.int .i64 0) := HM2.out.cell 0; have pf0 := HM2.out.froz 0; have pc1 : w2.cell? ⟨w.heap.size, 1, none⟩ = some (.string ⟨#[]⟩) := HM2.out.cell 1; have pf1 := HM2.out.froz 1; have pc2 : w2.cell? ⟨w.heap.size, 2, none⟩ = some (.string ⟨#[]⟩) := HM2.out.cell 2; have pf2 := HM2.out.froz 2; have pc3 : w2.cell? ⟨w.heap.size, 3, none⟩ = some (.slice none 0 0) := HM2.out.cell 3; have pf3 := HM2.out.froz 3; have pc4 : w2.cell? ⟨w.heap.size, 4, none⟩ = some (.slice none 0 0) := HM2.out.cell 4; have pf4 := HM2.out.froz 4; have pc5 : w2.cell? ⟨w.heap.size, 5, none⟩ = some (.int .i64 0) := HM2.out.cell 5; have pf5 := HM2.out.froz 5; have qc0 : w2.cell? ⟨w.heap.size + 1, 0, none⟩ = some (.int .i64 0) := HN2.out.cell 0; have qf0 := HN2.out.froz 0; have qc1 : w2.cell? ⟨w.heap.size + 1, 1, none⟩ = some (.string ⟨#[]⟩) := HN2.out.cell 1; have qf1 := HN2.out.froz 1; have qc2 : w2.cell? ⟨w.heap.size + 1, 2, none⟩ = some (.string ⟨#[]⟩) := HN2.out.cell 2; have qf2 := HN2.out.froz 2; have qc3 : w2.cell? ⟨w.heap.size + 1, 3, none⟩ = some (.slice none 0 0) := HN2.out.cell 3; have qf3 := HN2.out.froz 3; have qc4 : w2.cell? ⟨w.heap.size + 1, 4, none⟩ = some (.slice none 0 0) := HN2.out.cell 4; have qf4 := HN2.out.froz 4; have qc5 : w2.cell? ⟨w.heap.size + 1, 5, none⟩ = some (.int .i64 0) := HN2.out.cell 5; have qf5 := HN2.out.froz 5; clear hk2 ho2 hc2 hn2 hb2)
          all_goals
            go_wp2_with (fail)
            go_meet
            exact Lib.hid ⟨ok, m, A1, n1, d1, A2, n2, d2, rfl, mb6o HM2.out (by omega), mb6 HN2.out, own6 HK2.out (by omega), own6 HO2.out (by omega), HC2.out, HNM2.out, bel6 HB2.out (by omega)⟩
        · clear h1
          go_upto_region 10 with (fail)
          go_region_with (go_at_call 29; refine Calls.mono (HCA.out _) ?_; rintro e w2 ⟨kv, ov, ok, m, rfl, hk2, ho2, hc2, hn2, hb2⟩; obtain ⟨A1, n1, d1, rfl⟩ := own_slice hk2; obtain ⟨A2, n2, d2, rfl⟩ := own_slice ho2; unfold msgA; have HK2 := Lib.hid (own_less hk2 HZ1.out); have HO2 := Lib.hid (own_less ho2 HZ1.out); have HC2 := Lib.hid hc2; have HNM2 := Lib.hid hn2; have hb3 : Below W1.heap.size W1 w2 := bel (by go_grown) hb2; have HN2 : Hid (MB w2 (w.heap.size + 1) #[.int .i64 0, .string ⟨#[]⟩, .string ⟨#[]⟩, .slice none 0 0, .slice none 0 0, .int .i64 0]) := Lib.hid (HN1.out.on hb3); have HM2 : Hid (MB w2 w.heap.size #[.int .i64 0, .string ⟨#[]⟩, .string ⟨#[]⟩, .slice none 0 0, .slice none 0 0, .int .i64 0]) := Lib.hid (HM1.out.on hb3); have hz2 : w.heap.size < w2.heap.size := HM2.out.lt; have hy2 : w.heap.size + 1 < w2.heap.size := HN2.out.lt; have HB2 : Hid (Below w.heap.size w w2) := Lib.hid (bel HB1.out hb3); clear hb3; have pc0 : w2.cell? ⟨w.heap.size, 0, none⟩ = some (.int .i64 0) := HM2.out.cell 0; have pf0 := HM2.out.froz 0; have pc1 : w2.cell? ⟨w.heap.size, 1, none⟩ = some (.string ⟨#[]⟩) := HM2.out.cell 1; have pf1 := HM2.out.froz 1; have pc2 : w2.cell? ⟨w.heap.size, 2, none⟩ = some (.string ⟨#[]⟩) := HM2.out.cell 2; have pf2 := HM2.out.froz 2; have pc3 : w2.cell? ⟨w.heap.size, 3, none⟩ = some (.slice none 0 0) := HM2.out.cell 3; have pf3 := HM2.out.froz 3; have pc4 : w2.cell? ⟨w.heap.size, 4, none⟩ = some (.slice none 0 0) := HM2.out.cell 4; have pf4 := HM2.out.froz 4; have pc5 : w2.cell? ⟨w.heap.size, 5, none⟩ = some (.int .i64 0) := HM2.out.cell 5; have pf5 := HM2.out.froz 5; have qc0 : w2.cell? ⟨w.heap.size + 1, 0, none⟩ = some (.int .i64 0) := HN2.out.cell 0; have qf0 := HN2.out.froz 0; have qc1 : w2.cell? ⟨w.heap.size + 1, 1, none⟩ = some (.string ⟨#[]⟩) := HN2.out.cell 1; have qf1 := HN2.out.froz 1; have qc2 : w2.cell? ⟨w.heap.size + 1, 2, none⟩ = some (.string ⟨#[]⟩) := HN2.out.cell 2; have qf2 := HN2.out.froz 2; have qc3 : w2.cell? ⟨w.heap.size + 1, 3, none⟩ = some (.slice none 0 0) := HN2.out.cell 3; have qf3 := HN2.out.froz 3; have qc4 : w2.cell? ⟨w.heap.size + 1, 4, none⟩ = some (.slice none 0 0) := HN2.out.cell 4; have qf4 := HN2.out.froz 4; have qc5 : w2.cell? ⟨w.heap.size + 1, 5, none⟩ = some (.int .i64 0) := HN2.out.cell 5; have qf5 := HN2.out.froz 5; clear hk2 ho2 hc2 hn2 hb2)
          all_goals
            go_wp2_with (fail)
            go_meet
            exact Lib.hid ⟨ok, m, A1, n1, d1, A2, n2, d2, rfl, mb6o HM2.out (by omega), mb6 HN2.out, own6 HK2.out (by omega), own6 HO2.out (by omega), HC2.out, HNM2.out, bel6 HB2.out (by omega)⟩
      · by_cases h4 : kb = 4
        · subst h4
          clear h1 h2
          have HT := Lib.hid (fun W => rtake_any (s.extract 1 s.size) W (by rw [ByteArray.size_extract]; have := HZ.out; omega))
          have HC4 := Lib.hid (cand_4 s HS.out (by have := HKB.out; omega))
          obtain ⟨⟨n, k, c⟩, ht⟩ : ∃ t, t = takeB (s.extract 1 s.size) := ⟨_, rfl⟩
          rw [← ht] at HT HC4
          clear ht
          dsimp only at HT HC4
          go_upto_region 13 with (go_at_call 30; refine Calls.mono (HT.out _) ?_; unfold tripV; rintro e w2 ⟨rfl, hb2⟩; have hb3 : Below W1.heap.size W1 w2 := bel (by go_grown) hb2; have HN2 : Hid (MB w2 (w.heap.size + 1) #[.int .i64 0, .string ⟨#[]⟩, .string ⟨#[]⟩, .slice none 0 0, .slice none 0 0, .int .i64 0]) := Lib.hid (HN1.out.on hb3); have HM2 : Hid (MB w2 w.heap.size #[.int .i64 0, .string ⟨#[]⟩, .string ⟨#[]⟩, .slice none 0 0, .slice none 0 0, .int .i64 0]) := Lib.hid (HM1.out.on hb3); have hz2 : w.heap.size < w2.heap.size := HM2.out.lt; have hy2 : w.heap.size + 1 < w2.heap.size := HN2.out.lt; have HB2 : Hid (Below w.heap.size w w2) := Lib.hid (bel HB1.out hb3); clear hb3; have pc0 : w2.cell? ⟨w.heap.size, 0, none⟩ = some (.int .i64 0) := HM2.out.cell 0; have pf0 := HM2.out.froz 0; have pc1 : w2.cell? ⟨w.heap.size, 1, none⟩ = some (.string ⟨#[]⟩) := HM2.out.cell 1; have pf1 := HM2.out.froz 1; have pc2 : w2.cell? ⟨w.heap.size, 2, none⟩ = some (.string ⟨#[]⟩) := HM2.out.cell 2; have pf2 := HM2.out.froz 2; have pc3 : w2.cell? ⟨w.heap.size, 3, none⟩ = some (.slice none 0 0) := HM2.out.cell 3; have pf3 := HM2.out.froz 3; have pc4 : w2.cell? ⟨w.heap.size, 4, none⟩ = some (.slice none 0 0) := HM2.out.cell 4; have pf4 := HM2.out.froz 4; have pc5 : w2.cell? ⟨w.heap.size, 5, none⟩ = some (.int .i64 0) := HM2.out.cell 5; have pf5 := HM2.out.froz 5; have qc0 : w2.cell? ⟨w.heap.size + 1, 0, none⟩ = some (.int .i64 0) := HN2.out.cell 0; have qf0 := HN2.out.froz 0; have qc1 : w2.cell? ⟨w.heap.size + 1, 1, none⟩ = some (.string ⟨#[]⟩) := HN2.out.cell 1; have qf1 := HN2.out.froz 1; have qc2 : w2.cell? ⟨w.heap.size + 1, 2, none⟩ = some (.string ⟨#[]⟩) := HN2.out.cell 2; have qf2 := HN2.out.froz 2; have qc3 : w2.cell? ⟨w.heap.size + 1, 3, none⟩ = some (.slice none 0 0) := HN2.out.cell 3; have qf3 := HN2.out.froz 3; have qc4 : w2.cell? ⟨w.heap.size + 1, 4, none⟩ = some (.slice none 0 0) := HN2.out.cell 4; have qf4 := HN2.out.froz 4; have qc5 : w2.cell? ⟨w.heap.size + 1, 5, none⟩ = some (.int .i64 0) := HN2.out.cell 5; have qf5 := HN2.out.froz 5; clear hb2)
          go_wp2_with (fail)
          go_meet
          exact Lib.hid (rr4 HM2.out HN2.out HB2.out HC4.out)
        · have d1 : (kb == 1) = false := beq_eq_false_iff_ne.2 h1
          have d2 : (kb == 2) = false := beq_eq_false_iff_ne.2 (fun e => h2 (.inl e))
          have d3 : (kb == 3) = false := beq_eq_false_iff_ne.2 (fun e => h2 (.inr e))
          have d4 : (kb == 4) = false := beq_eq_false_iff_ne.2 h4
          have HN : Hid (readM s = none) := Lib.hid (by have := HKB.out; exact cand_o s (by omega) (by omega) (by omega) (by omega))
          clear h1 h2 h4
          go_wp2_with (fail)
          go_meet
          exact Lib.hid ⟨false, emptyL, none, 0, 0, none, 0, 0, rfl, HM1.out, HN1.out, World.ownsRow_nil _ _ _ _, World.ownsRow_nil _ _ _ _, fun m0 hr => (by rw [HN.out] at hr; cases hr), fun h => (by cases h), HB1.out⟩
  case rest =>
    rename World => W5
    obtain ⟨ok, m, A1, n1, d1, A2, n2, d2, rfl, hm5, hn5, hk5, ho5, hc5, hs5, hb5⟩ := hcut.out
    clear hcut
    have HRC := Lib.hid (read_core s m ok hc5)
    have HM5 := Lib.hid hm5
    have HN5 := Lib.hid hn5
    have HB5 := Lib.hid hb5
    have hz5 : w.heap.size < W5.heap.size := HM5.out.lt
    have hy5 : w.heap.size + 1 < W5.heap.size := HN5.out.lt
    have ac0 : W5.cell? ⟨w.heap.size, 0, none⟩ = some (.int .i64 0) := HM5.out.cell 0; have af0 := HM5.out.froz 0; have ac1 : W5.cell? ⟨w.heap.size, 1, none⟩ = some (.string ⟨#[]⟩) := HM5.out.cell 1; have af1 := HM5.out.froz 1; have ac2 : W5.cell? ⟨w.heap.size, 2, none⟩ = some (.string ⟨#[]⟩) := HM5.out.cell 2; have af2 := HM5.out.froz 2; have ac3 : W5.cell? ⟨w.heap.size, 3, none⟩ = some (.slice none 0 0) := HM5.out.cell 3; have af3 := HM5.out.froz 3; have ac4 : W5.cell? ⟨w.heap.size, 4, none⟩ = some (.slice none 0 0) := HM5.out.cell 4; have af4 := HM5.out.froz 4; have ac5 : W5.cell? ⟨w.heap.size, 5, none⟩ = some (.int .i64 0) := HM5.out.cell 5; have af5 := HM5.out.froz 5
    have bc0 : W5.cell? ⟨w.heap.size + 1, 0, none⟩ = some (.int .i64 m.kind) := HN5.out.cell 0; have bf0 := HN5.out.froz 0; have bc1 : W5.cell? ⟨w.heap.size + 1, 1, none⟩ = some (.string m.name) := HN5.out.cell 1; have bf1 := HN5.out.froz 1; have bc2 : W5.cell? ⟨w.heap.size + 1, 2, none⟩ = some (.string m.root) := HN5.out.cell 2; have bf2 := HN5.out.froz 2; have bc3 : W5.cell? ⟨w.heap.size + 1, 3, none⟩ = some (.slice A1 n1 d1) := HN5.out.cell 3; have bf3 := HN5.out.froz 3; have bc4 : W5.cell? ⟨w.heap.size + 1, 4, none⟩ = some (.slice A2 n2 d2) := HN5.out.cell 4; have bf4 := HN5.out.froz 4; have bc5 : W5.cell? ⟨w.heap.size + 1, 5, none⟩ = some (.int .i64 m.err) := HN5.out.cell 5; have bf5 := HN5.out.froz 5
    cases ok with
    | false =>
      have HN : Hid (readM s = none) := Lib.hid (by rw [HRC.out, if_neg (by simp)])
      clear hm5 hn5 hk5 ho5 hc5 hs5 hb5
      go_wp2_with fail
      refine bodyPost_ret (res_rread rfl rfl (mb6 HM5.out)) rfl ?_
      exact ⟨by rw [HN.out]; exact ⟨_, rfl, MsgV.bare 0 0 _ _⟩, bel6 HB5.out (Nat.le_refl _)⟩
    | true =>
      have hnm := hs5 rfl
      have HMV : Hid (MsgV W5 W5.heap.size (.agg #[.int .i64 m.kind, .string m.name, .string m.root, .slice A1 n1 d1, .slice A2 n2 d2, .int .i64 m.err]) m) := Lib.hid ⟨_, _, rfl, strs_of_own hk5, objs_of_own ho5⟩
      have HK5 := Lib.hid hk5
      have HO5 := Lib.hid ho5
      have HWR := Lib.hid (fun W (hb : Below W5.heap.size W5 W) => rwrite_any _ m W (HMV.out.on hb) hnm)
      obtain ⟨z, hzz⟩ : ∃ z, z = writeL m := ⟨_, rfl⟩
      rw [← hzz] at HWR HRC
      clear hzz
      cases hf : fitL m with
      | false =>
        have HFI := Lib.hid (fun W (hb : Below W5.heap.size W5 W) => rfit_any _ m W false hf (HMV.out.on hb) hnm)
        have HN : Hid (readM s = none) := Lib.hid (by rw [HRC.out, if_neg (by rw [hf]; simp)])
        clear hm5 hn5 hk5 ho5 hc5 hs5 hb5 hf hnm
        go_wp2_with (go_at_call 8; (with_reducible refine Calls.mono (HFI.out _ ?_) ?_); go_grown; rintro e w6 ⟨rfl, hb6⟩; have HM6 : Hid (MB w6 w.heap.size #[.int .i64 0, .string ⟨#[]⟩, .string ⟨#[]⟩, .slice none 0 0, .slice none 0 0, .int .i64 0]) := Lib.hid (HM5.out.on hb6); have HN6 : Hid (MB w6 (w.heap.size + 1) #[.int .i64 m.kind, .string m.name, .string m.root, .slice A1 n1 d1, .slice A2 n2 d2, .int .i64 m.err]) := Lib.hid (HN5.out.on hb6); have hz6 : w.heap.size < w6.heap.size := HM6.out.lt; have hy6 : w.heap.size + 1 < w6.heap.size := HN6.out.lt; have HB6 : Hid (Below w.heap.size w w6) := Lib.hid (bel HB5.out hb6); have HC6 : Hid (Below W5.heap.size W5 w6) := Lib.hid hb6; have a6c0 : w6.cell? ⟨w.heap.size, 0, none⟩ = some (.int .i64 0) := HM6.out.cell 0; have a6f0 := HM6.out.froz 0; have a6c1 : w6.cell? ⟨w.heap.size, 1, none⟩ = some (.string ⟨#[]⟩) := HM6.out.cell 1; have a6f1 := HM6.out.froz 1; have a6c2 : w6.cell? ⟨w.heap.size, 2, none⟩ = some (.string ⟨#[]⟩) := HM6.out.cell 2; have a6f2 := HM6.out.froz 2; have a6c3 : w6.cell? ⟨w.heap.size, 3, none⟩ = some (.slice none 0 0) := HM6.out.cell 3; have a6f3 := HM6.out.froz 3; have a6c4 : w6.cell? ⟨w.heap.size, 4, none⟩ = some (.slice none 0 0) := HM6.out.cell 4; have a6f4 := HM6.out.froz 4; have a6c5 : w6.cell? ⟨w.heap.size, 5, none⟩ = some (.int .i64 0) := HM6.out.cell 5; have a6f5 := HM6.out.froz 5; have b6c0 : w6.cell? ⟨w.heap.size + 1, 0, none⟩ = some (.int .i64 m.kind) := HN6.out.cell 0; have b6f0 := HN6.out.froz 0; have b6c1 : w6.cell? ⟨w.heap.size + 1, 1, none⟩ = some (.string m.name) := HN6.out.cell 1; have b6f1 := HN6.out.froz 1; have b6c2 : w6.cell? ⟨w.heap.size + 1, 2, none⟩ = some (.string m.root) := HN6.out.cell 2; have b6f2 := HN6.out.froz 2; have b6c3 : w6.cell? ⟨w.heap.size + 1, 3, none⟩ = some (.slice A1 n1 d1) := HN6.out.cell 3; have b6f3 := HN6.out.froz 3; have b6c4 : w6.cell? ⟨w.heap.size + 1, 4, none⟩ = some (.slice A2 n2 d2) := HN6.out.cell 4; have b6f4 := HN6.out.froz 4; have b6c5 : w6.cell? ⟨w.heap.size + 1, 5, none⟩ = some (.int .i64 m.err) := HN6.out.cell 5; have b6f5 := HN6.out.froz 5; clear hb6)
        refine bodyPost_ret (res_rread rfl rfl (mb6 HM6.out)) rfl ?_
        exact ⟨by rw [HN.out]; exact ⟨_, rfl, MsgV.bare 0 0 _ _⟩, bel6 HB6.out (Nat.le_refl _)⟩
      | true =>
        have HFI := Lib.hid (fun W (hb : Below W5.heap.size W5 W) => rfit_any _ m W true hf (HMV.out.on hb) hnm)
        by_cases hzs : z = s
        · subst hzs
          have HN : Hid (readM z = some m) := Lib.hid (by rw [HRC.out, if_pos ⟨rfl, hf, rfl⟩])
          have q1 : (z.toList == z.toList) = true := beq_self_eq_true _
          have q2 : (z.toList != z.toList) = false := by rw [bne, q1]; rfl
          clear hm5 hn5 hk5 ho5 hc5 hs5 hb5 hf hnm
          go_wp2_with (first
            | (go_at_call 8; (with_reducible refine Calls.mono (HFI.out _ ?_) ?_); go_grown; rintro e w6 ⟨rfl, hb6⟩; have HM6 : Hid (MB w6 w.heap.size #[.int .i64 0, .string ⟨#[]⟩, .string ⟨#[]⟩, .slice none 0 0, .slice none 0 0, .int .i64 0]) := Lib.hid (HM5.out.on hb6); have HN6 : Hid (MB w6 (w.heap.size + 1) #[.int .i64 m.kind, .string m.name, .string m.root, .slice A1 n1 d1, .slice A2 n2 d2, .int .i64 m.err]) := Lib.hid (HN5.out.on hb6); have hz6 : w.heap.size < w6.heap.size := HM6.out.lt; have hy6 : w.heap.size + 1 < w6.heap.size := HN6.out.lt; have HB6 : Hid (Below w.heap.size w w6) := Lib.hid (bel HB5.out hb6); have HC6 : Hid (Below W5.heap.size W5 w6) := Lib.hid hb6; have a6c0 : w6.cell? ⟨w.heap.size, 0, none⟩ = some (.int .i64 0) := HM6.out.cell 0; have a6f0 := HM6.out.froz 0; have a6c1 : w6.cell? ⟨w.heap.size, 1, none⟩ = some (.string ⟨#[]⟩) := HM6.out.cell 1; have a6f1 := HM6.out.froz 1; have a6c2 : w6.cell? ⟨w.heap.size, 2, none⟩ = some (.string ⟨#[]⟩) := HM6.out.cell 2; have a6f2 := HM6.out.froz 2; have a6c3 : w6.cell? ⟨w.heap.size, 3, none⟩ = some (.slice none 0 0) := HM6.out.cell 3; have a6f3 := HM6.out.froz 3; have a6c4 : w6.cell? ⟨w.heap.size, 4, none⟩ = some (.slice none 0 0) := HM6.out.cell 4; have a6f4 := HM6.out.froz 4; have a6c5 : w6.cell? ⟨w.heap.size, 5, none⟩ = some (.int .i64 0) := HM6.out.cell 5; have a6f5 := HM6.out.froz 5; have b6c0 : w6.cell? ⟨w.heap.size + 1, 0, none⟩ = some (.int .i64 m.kind) := HN6.out.cell 0; have b6f0 := HN6.out.froz 0; have b6c1 : w6.cell? ⟨w.heap.size + 1, 1, none⟩ = some (.string m.name) := HN6.out.cell 1; have b6f1 := HN6.out.froz 1; have b6c2 : w6.cell? ⟨w.heap.size + 1, 2, none⟩ = some (.string m.root) := HN6.out.cell 2; have b6f2 := HN6.out.froz 2; have b6c3 : w6.cell? ⟨w.heap.size + 1, 3, none⟩ = some (.slice A1 n1 d1) := HN6.out.cell 3; have b6f3 := HN6.out.froz 3; have b6c4 : w6.cell? ⟨w.heap.size + 1, 4, none⟩ = some (.slice A2 n2 d2) := HN6.out.cell 4; have b6f4 := HN6.out.froz 4; have b6c5 : w6.cell? ⟨w.heap.size + 1, 5, none⟩ = some (.int .i64 m.err) := HN6.out.cell 5; have b6f5 := HN6.out.froz 5; clear hb6)
            | (go_at_call 16; (with_reducible refine Calls.mono (HWR.out _ HC6.out) ?_); rintro e w7 ⟨rfl, hb7⟩; have HM7 : Hid (MB w7 w.heap.size #[.int .i64 0, .string ⟨#[]⟩, .string ⟨#[]⟩, .slice none 0 0, .slice none 0 0, .int .i64 0]) := Lib.hid (HM6.out.on hb7); have HN7 : Hid (MB w7 (w.heap.size + 1) #[.int .i64 m.kind, .string m.name, .string m.root, .slice A1 n1 d1, .slice A2 n2 d2, .int .i64 m.err]) := Lib.hid (HN6.out.on hb7); have hz7 : w.heap.size < w7.heap.size := HM7.out.lt; have hy7 : w.heap.size + 1 < w7.heap.size := HN7.out.lt; have HB7 : Hid (Below w.heap.size w w7) := Lib.hid (bel HB6.out hb7); have HC7 : Hid (Below W5.heap.size W5 w7) := Lib.hid (bel HC6.out hb7); have a7c0 : w7.cell? ⟨w.heap.size, 0, none⟩ = some (.int .i64 0) := HM7.out.cell 0; have a7f0 := HM7.out.froz 0; have a7c1 : w7.cell? ⟨w.heap.size, 1, none⟩ = some (.string ⟨#[]⟩) := HM7.out.cell 1; have a7f1 := HM7.out.froz 1; have a7c2 : w7.cell? ⟨w.heap.size, 2, none⟩ = some (.string ⟨#[]⟩) := HM7.out.cell 2; have a7f2 := HM7.out.froz 2; have a7c3 : w7.cell? ⟨w.heap.size, 3, none⟩ = some (.slice none 0 0) := HM7.out.cell 3; have a7f3 := HM7.out.froz 3; have a7c4 : w7.cell? ⟨w.heap.size, 4, none⟩ = some (.slice none 0 0) := HM7.out.cell 4; have a7f4 := HM7.out.froz 4; have a7c5 : w7.cell? ⟨w.heap.size, 5, none⟩ = some (.int .i64 0) := HM7.out.cell 5; have a7f5 := HM7.out.froz 5; have b7c0 : w7.cell? ⟨w.heap.size + 1, 0, none⟩ = some (.int .i64 m.kind) := HN7.out.cell 0; have b7f0 := HN7.out.froz 0; have b7c1 : w7.cell? ⟨w.heap.size + 1, 1, none⟩ = some (.string m.name) := HN7.out.cell 1; have b7f1 := HN7.out.froz 1; have b7c2 : w7.cell? ⟨w.heap.size + 1, 2, none⟩ = some (.string m.root) := HN7.out.cell 2; have b7f2 := HN7.out.froz 2; have b7c3 : w7.cell? ⟨w.heap.size + 1, 3, none⟩ = some (.slice A1 n1 d1) := HN7.out.cell 3; have b7f3 := HN7.out.froz 3; have b7c4 : w7.cell? ⟨w.heap.size + 1, 4, none⟩ = some (.slice A2 n2 d2) := HN7.out.cell 4; have b7f4 := HN7.out.froz 4; have b7c5 : w7.cell? ⟨w.heap.size + 1, 5, none⟩ = some (.int .i64 m.err) := HN7.out.cell 5; have b7f5 := HN7.out.froz 5; clear hb7))
          refine bodyPost_ret (res_rread rfl rfl (mb6 HM7.out)) rfl ?_
          exact ⟨by rw [HN.out]; exact ⟨_, rfl, ⟨_, _, rfl, strs_of_own (own6 (HK5.out.kept (row := none) (grown_below HC7.out) (Classical.em _)) (by omega)), objs_of_own (own6 (HO5.out.kept (row := none) (grown_below HC7.out) (Classical.em _)) (by omega))⟩⟩, bel6 HB7.out (Nat.le_refl _)⟩
        · have HN : Hid (readM s = none) := Lib.hid (by rw [HRC.out, if_neg (fun h => hzs h.2.2)])
          have q1 : (z.toList == s.toList) = false := by rw [str_beq]; exact decide_eq_false hzs
          have q2 : (z.toList != s.toList) = true := by rw [bne, q1]; rfl
          clear hm5 hn5 hk5 ho5 hc5 hs5 hb5 hf hnm hzs
          go_wp2_with (first
            | (go_at_call 8; (with_reducible refine Calls.mono (HFI.out _ ?_) ?_); go_grown; rintro e w6 ⟨rfl, hb6⟩; have HM6 : Hid (MB w6 w.heap.size #[.int .i64 0, .string ⟨#[]⟩, .string ⟨#[]⟩, .slice none 0 0, .slice none 0 0, .int .i64 0]) := Lib.hid (HM5.out.on hb6); have HN6 : Hid (MB w6 (w.heap.size + 1) #[.int .i64 m.kind, .string m.name, .string m.root, .slice A1 n1 d1, .slice A2 n2 d2, .int .i64 m.err]) := Lib.hid (HN5.out.on hb6); have hz6 : w.heap.size < w6.heap.size := HM6.out.lt; have hy6 : w.heap.size + 1 < w6.heap.size := HN6.out.lt; have HB6 : Hid (Below w.heap.size w w6) := Lib.hid (bel HB5.out hb6); have HC6 : Hid (Below W5.heap.size W5 w6) := Lib.hid hb6; have a6c0 : w6.cell? ⟨w.heap.size, 0, none⟩ = some (.int .i64 0) := HM6.out.cell 0; have a6f0 := HM6.out.froz 0; have a6c1 : w6.cell? ⟨w.heap.size, 1, none⟩ = some (.string ⟨#[]⟩) := HM6.out.cell 1; have a6f1 := HM6.out.froz 1; have a6c2 : w6.cell? ⟨w.heap.size, 2, none⟩ = some (.string ⟨#[]⟩) := HM6.out.cell 2; have a6f2 := HM6.out.froz 2; have a6c3 : w6.cell? ⟨w.heap.size, 3, none⟩ = some (.slice none 0 0) := HM6.out.cell 3; have a6f3 := HM6.out.froz 3; have a6c4 : w6.cell? ⟨w.heap.size, 4, none⟩ = some (.slice none 0 0) := HM6.out.cell 4; have a6f4 := HM6.out.froz 4; have a6c5 : w6.cell? ⟨w.heap.size, 5, none⟩ = some (.int .i64 0) := HM6.out.cell 5; have a6f5 := HM6.out.froz 5; have b6c0 : w6.cell? ⟨w.heap.size + 1, 0, none⟩ = some (.int .i64 m.kind) := HN6.out.cell 0; have b6f0 := HN6.out.froz 0; have b6c1 : w6.cell? ⟨w.heap.size + 1, 1, none⟩ = some (.string m.name) := HN6.out.cell 1; have b6f1 := HN6.out.froz 1; have b6c2 : w6.cell? ⟨w.heap.size + 1, 2, none⟩ = some (.string m.root) := HN6.out.cell 2; have b6f2 := HN6.out.froz 2; have b6c3 : w6.cell? ⟨w.heap.size + 1, 3, none⟩ = some (.slice A1 n1 d1) := HN6.out.cell 3; have b6f3 := HN6.out.froz 3; have b6c4 : w6.cell? ⟨w.heap.size + 1, 4, none⟩ = some (.slice A2 n2 d2) := HN6.out.cell 4; have b6f4 := HN6.out.froz 4; have b6c5 : w6.cell? ⟨w.heap.size + 1, 5, none⟩ = some (.int .i64 m.err) := HN6.out.cell 5; have b6f5 := HN6.out.froz 5; clear hb6)
            | (go_at_call 16; (with_reducible refine Calls.mono (HWR.out _ HC6.out) ?_); rintro e w7 ⟨rfl, hb7⟩; have HM7 : Hid (MB w7 w.heap.size #[.int .i64 0, .string ⟨#[]⟩, .string ⟨#[]⟩, .slice none 0 0, .slice none 0 0, .int .i64 0]) := Lib.hid (HM6.out.on hb7); have HN7 : Hid (MB w7 (w.heap.size + 1) #[.int .i64 m.kind, .string m.name, .string m.root, .slice A1 n1 d1, .slice A2 n2 d2, .int .i64 m.err]) := Lib.hid (HN6.out.on hb7); have hz7 : w.heap.size < w7.heap.size := HM7.out.lt; have hy7 : w.heap.size + 1 < w7.heap.size := HN7.out.lt; have HB7 : Hid (Below w.heap.size w w7) := Lib.hid (bel HB6.out hb7); have HC7 : Hid (Below W5.heap.size W5 w7) := Lib.hid (bel HC6.out hb7); have a7c0 : w7.cell? ⟨w.heap.size, 0, none⟩ = some (.int .i64 0) := HM7.out.cell 0; have a7f0 := HM7.out.froz 0; have a7c1 : w7.cell? ⟨w.heap.size, 1, none⟩ = some (.string ⟨#[]⟩) := HM7.out.cell 1; have a7f1 := HM7.out.froz 1; have a7c2 : w7.cell? ⟨w.heap.size, 2, none⟩ = some (.string ⟨#[]⟩) := HM7.out.cell 2; have a7f2 := HM7.out.froz 2; have a7c3 : w7.cell? ⟨w.heap.size, 3, none⟩ = some (.slice none 0 0) := HM7.out.cell 3; have a7f3 := HM7.out.froz 3; have a7c4 : w7.cell? ⟨w.heap.size, 4, none⟩ = some (.slice none 0 0) := HM7.out.cell 4; have a7f4 := HM7.out.froz 4; have a7c5 : w7.cell? ⟨w.heap.size, 5, none⟩ = some (.int .i64 0) := HM7.out.cell 5; have a7f5 := HM7.out.froz 5; have b7c0 : w7.cell? ⟨w.heap.size + 1, 0, none⟩ = some (.int .i64 m.kind) := HN7.out.cell 0; have b7f0 := HN7.out.froz 0; have b7c1 : w7.cell? ⟨w.heap.size + 1, 1, none⟩ = some (.string m.name) := HN7.out.cell 1; have b7f1 := HN7.out.froz 1; have b7c2 : w7.cell? ⟨w.heap.size + 1, 2, none⟩ = some (.string m.root) := HN7.out.cell 2; have b7f2 := HN7.out.froz 2; have b7c3 : w7.cell? ⟨w.heap.size + 1, 3, none⟩ = some (.slice A1 n1 d1) := HN7.out.cell 3; have b7f3 := HN7.out.froz 3; have b7c4 : w7.cell? ⟨w.heap.size + 1, 4, none⟩ = some (.slice A2 n2 d2) := HN7.out.cell 4; have b7f4 := HN7.out.froz 4; have b7c5 : w7.cell? ⟨w.heap.size + 1, 5, none⟩ = some (.int .i64 m.err) := HN7.out.cell 5; have b7f5 := HN7.out.froz 5; clear hb7))
          refine bodyPost_ret (res_rread rfl rfl (mb6 HM7.out)) rfl ?_
          exact ⟨by rw [HN.out]; exact ⟨_, rfl, MsgV.bare 0 0 _ _⟩, bel6 HB7.out (Nat.le_refl _)⟩


theorem rread_any (s : ByteArray) (w : World) (hz : s.size ≤ 5000) :
    Calls Tryd.prog 13 #[.string s] w (ReadP (readM s) w) := by
  rcases Nat.eq_zero_or_pos s.size with h0 | h0
  · exact rread_0 s w h0
  · exact rread_pos s w h0 hz

end Go.Proofs.YthlajcohbpjgkaaDoor
