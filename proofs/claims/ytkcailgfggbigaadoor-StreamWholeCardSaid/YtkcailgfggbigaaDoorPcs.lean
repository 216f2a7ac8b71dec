/-
  PIECES: what they are; the program's and the document's loops.
-/
import Derived.Test.YtkcailgfggbigaaDoorRCut
import Derived.Test.YtkcailgfggbigaaDoorApp
import Derived.Deep.RegionHeld3
namespace Go.Proofs.YtkcailgfggbigaaDoor
open Go.RowKit Go.Shelf Go.Proofs.Gear Go.Proofs.Mem
attribute [local go_sem] Oper.semAt_some
set_option linter.unusedVariables false

theorem cutN_cases (mn av mx b : Nat) (s : ByteArray) : (∃ x, x ∈ hashL s mn (min s.size mx) ∧ cutN mn av mx b s = x.1 + 1) ∨ cutN mn av mx b s = min s.size mx := by
  unfold cutN
  split
  · rename_i x hx
    exact .inl ⟨x, List.mem_of_find?_eq_some hx, rfl⟩
  · exact .inr rfl
theorem cutN_le (mn av mx b : Nat) (s : ByteArray) : cutN mn av mx b s ≤ min s.size mx := by
  rcases cutN_cases mn av mx b s with ⟨x, hx, h⟩ | h
  · have := (hashL_mem hx).2.1; omega
  · omega
theorem cutN_ge (mn av mx b : Nat) (s : ByteArray) (h : mn ≤ mx) : min s.size mn ≤ cutN mn av mx b s := by
  rcases cutN_cases mn av mx b s with ⟨x, hx, h⟩ | h
  · have := (hashL_mem hx).1; omega
  · omega
theorem cutN_pos (mn av mx b : Nat) (s : ByteArray) (h : mn ≤ mx) (h1 : 1 ≤ mn) (hs : 0 < s.size) : 0 < cutN mn av mx b s := by
  have := cutN_ge mn av mx b s h; omega

def piecesF (cut : ByteArray → Nat) : Nat → ByteArray → List ByteArray
  | 0, _ => []
  | f + 1, s => if s.size = 0 then [] else s.extract 0 (cut s) :: piecesF cut f (s.extract (cut s) s.size)
/-- A text's pieces. -/
def pcs (mn av mx b : Nat) (s : ByteArray) : List ByteArray := piecesF (cutN mn av mx b) s.size s

theorem piecesF_more {cut : ByteArray → Nat} (hc : ∀ s : ByteArray, 0 < s.size → 0 < cut s ∧ cut s ≤ s.size) : ∀ (n f : Nat) (s : ByteArray), s.size ≤ n → s.size ≤ f → piecesF cut f s = piecesF cut s.size s := by
  intro n
  induction n with
  | zero => intro f s hn hf; have : s.size = 0 := by omega
            rw [this]; cases f with
            | zero => rfl
            | succ f => simp [piecesF, this]
  | succ n ih =>
    intro f s hn hf
    by_cases h0 : s.size = 0
    · rw [h0]; cases f with
      | zero => rfl
      | succ f => simp [piecesF, h0]
    · obtain ⟨k, hk⟩ : ∃ k, s.size = k + 1 := ⟨s.size - 1, by omega⟩
      obtain ⟨g, rfl⟩ : ∃ g, f = g + 1 := ⟨f - 1, by omega⟩
      have h2 := hc s (by omega)
      have hsz : (s.extract (cut s) s.size).size = s.size - cut s := by rw [ByteArray.size_extract]; omega
      rw [hk, piecesF, piecesF, if_neg h0, if_neg h0, ih g _ (by omega) (by omega), ih k _ (by omega) (by omega)]

theorem pcs_nil (mn av mx b : Nat) (s : ByteArray) (h : s.size = 0) : pcs mn av mx b s = [] := by unfold pcs; rw [h]; rfl
theorem pcs_cons (mn av mx b : Nat) (h : mn ≤ mx) (h1 : 1 ≤ mn) (s : ByteArray) (hs : 0 < s.size) :
    pcs mn av mx b s = s.extract 0 (cutN mn av mx b s) :: pcs mn av mx b (s.extract (cutN mn av mx b s) s.size) := by
  have hc : ∀ s : ByteArray, 0 < s.size → 0 < cutN mn av mx b s ∧ cutN mn av mx b s ≤ s.size := fun s hs => ⟨cutN_pos _ _ _ _ _ h h1 hs, by have := cutN_le mn av mx b s; omega⟩
  obtain ⟨k, hk⟩ : ∃ k, s.size = k + 1 := ⟨s.size - 1, by omega⟩
  have h2 := hc s hs
  have hsz : (s.extract (cutN mn av mx b s) s.size).size = s.size - cutN mn av mx b s := by rw [ByteArray.size_extract]; omega
  unfold pcs
  conv => lhs; rw [hk]
  rw [piecesF, if_neg (by omega), piecesF_more hc s.size k _ (by omega) (by omega)]

def strSize : Value → Nat | .string s => s.size | _ => 0

/-- Fit parameters. -/
structure FitN (mn av mx b : Nat) : Prop where
  pow : av = 2 ^ b
  low : 1 ≤ b
  high : b ≤ 12
  one : 1 ≤ mn
  min : mn ≤ av
  max : av ≤ mx
  big : mx ≤ 4096

/-- The table that counts zeros lies. -/
def Laid (w : World) : Prop := 1 < w.heap.size ∧ ∀ b : Nat, 1 ≤ b → b ≤ 12 → ∃ idx : Nat, idx < 64 ∧ tzAt ((2 ^ b : Nat) : Int) = (idx : Int) ∧ w.cell? ⟨1, idx, none⟩ = some (.int .u8 b)
theorem Laid.on {w W : World} (h : Laid w) (hb : Below w.heap.size w W) : Laid W :=
  ⟨Nat.lt_of_lt_of_le h.1 hb.size, fun b h1 h2 => by obtain ⟨idx, h3, h4, h5⟩ := h.2 b h1 h2; exact ⟨idx, h3, h4, (hb.cell (p := ⟨1, idx, none⟩) h.1).trans h5⟩⟩

theorem cut_fit {mn av mx b : Nat} (hf : FitN mn av mx b) (s : ByteArray) (hs : s.size ≤ 9223372036854775807) (w : World) (hL : Laid w) :
    Calls Tryd.prog 16 #[.agg #[.int .i64 mn, .int .i64 av, .int .i64 mx], .string s] w fun e w' => e = .returned (.int .i64 (cutN mn av mx b s)) ∧ Below w.heap.size w w' := by
  obtain ⟨idx, h3, h4, h5⟩ := hL.2 b hf.low hf.high
  rw [← hf.pow] at h4
  exact cut_any mn av mx b idx s w hs (by rw [hf.pow]; simp) hf.low hf.high hf.one hf.min hf.max hf.big (by have := hf.one; have := hf.min; simp; omega) h4 h3 (fun W hB => (hB.cell (p := ⟨1, idx, none⟩) hL.1).trans h5)
theorem rcut_fit {mn av mx b : Nat} (hf : FitN mn av mx b) (s : ByteArray) (hs : s.size ≤ 9223372036854775807) (w : World) :
    Calls Tryd.prog 17 #[.agg #[.int .i64 mn, .int .i64 av, .int .i64 mx], .string s] w fun e w' => e = .returned (.int .i64 (cutN mn av mx b s)) ∧ Below w.heap.size w w' :=
  rcut_any mn av mx b s w hs (by rw [hf.pow]; simp) hf.low hf.high hf.one hf.min hf.max hf.big

theorem own_on {w w' : World} {base n : Nat} {e : TypeId} {size : Nat} {v : Value} {xs : List Value} (h : w.ownsRow base e size v n xs) (hb : Below w.heap.size w w') : w'.ownsRow base e size v n xs := by
  refine ⟨h.1, h.2.imp id ?_⟩
  rintro ⟨g, cap, cur, rfl, h1, hh, hr⟩
  exact ⟨g, cap, cur, rfl, h1, (hb.block g (Array.getElem?_eq_some_iff.1 hh).1).trans hh, hr⟩

theorem Tryd.infoS : (Tryd.prog.info? 9).map (fun i => (i.zero, i.size, i.bytes)) = some (some (.string ⟨#[]⟩), 1, 16) := by kernel_rfl

set_option maxHeartbeats 4000000 in
theorem pieces_any {mn av mx b : Nat} (hf : FitN mn av mx b) (s : ByteArray) (hs : s.size ≤ 100000) (w : World) (hL : Laid w) :
    Calls Tryd.prog 14 #[.agg #[.int .i64 mn, .int .i64 av, .int .i64 mx], .string s] w fun e w' => GotStrs w (pcs mn av mx b s) e w' := by
  obtain ⟨i0, hi, hz0, hz1, hz2⟩ := info_parts Tryd.infoS
  have hmm : mn ≤ mx := Nat.le_trans hf.min hf.max
  have hm1 := hf.one
  have HF := Lib.hid hf
  clear hf
  have HL := Lib.hid hL
  clear hL
  go_enter Tryd.func14, Tryd.ntmps14
  go_wp2
  obtain ⟨W0, hW0⟩ : ∃ W0, w.alloc (.cells #[.int .i64 mn, .int .i64 av, .int .i64 mx] 23) = W0 := ⟨_, rfl⟩
  have hsz : W0.heap.size = w.heap.size + 1 := by rw [← hW0]; simp only [World.size_alloc]
  have k1 : W0.cell? ⟨w.heap.size, 0, none⟩ = some (.int .i64 mn) := by rw [← hW0]; clear hsz hW0; go_simp
  have k2 : W0.cell? ⟨w.heap.size, 1, none⟩ = some (.int .i64 av) := by rw [← hW0]; clear hsz hW0; go_simp
  have k3 : W0.cell? ⟨w.heap.size, 2, none⟩ = some (.int .i64 mx) := by rw [← hW0]; clear hsz hW0; go_simp
  have hB0 : Below w.heap.size w W0 := by rw [← hW0]; clear hsz hW0; go_grown
  have hown0 : W0.ownsRow (w.heap.size + 1) 9 1 (.slice none 0 0) 0 [] := World.ownsRow_nil _ _ _ _
  rw [hW0]
  clear hW0
  have HB0 := Lib.hid hB0
  clear hB0
  go_loopw [1, 5] (fun sv l wr => ∃ (rest : ByteArray) (done : List ByteArray), sv = .string rest ∧ Hid (pcs mn av mx b s = done ++ pcs mn av mx b rest) ∧ done.length + rest.size ≤ s.size ∧ wr.ownsRow (w.heap.size + 1) 9 1 l done.length (done.map .string) ∧ Hid (Below w.heap.size w wr) ∧ Hid (w.heap.size + 1 ≤ wr.heap.size) ∧
      wr.cell? ⟨w.heap.size, 0, none⟩ = some (.int .i64 mn) ∧ wr.cell? ⟨w.heap.size, 1, none⟩ = some (.int .i64 av) ∧ wr.cell? ⟨w.heap.size, 2, none⟩ = some (.int .i64 mx)) (fun sv _ _ => strSize sv)
  case atStart => exact ⟨s, [], rfl, Lib.hid rfl, by simp, hown0, HB0, Lib.hid (by omega), k1, k2, k3⟩
  case round =>
    obtain ⟨rest, done, rfl, hp, hlen, hown, hB, hSz, c1, c2, c3⟩ := hrel
    by_cases h0 : rest.size = 0
    · go_wp2
      refine bodyPost_ret (results_tmp rfl _ _ _) rfl ?_
      exact ⟨_, rfl, by rw [hp.out, pcs_nil _ _ _ _ rest h0, List.append_nil]; exact strs_of_own hown, fun g hg => Nat.le_trans (Nat.le_succ _) (hown.lt g hg).1, hB.out⟩
    · obtain ⟨n, hn⟩ : ∃ n, n = cutN mn av mx b rest := ⟨_, rfl⟩
      have hn1 : 0 < n := by rw [hn]; exact cutN_pos _ _ _ _ _ hmm hm1 (by omega)
      have hn2 : n ≤ rest.size := by rw [hn]; have := cutN_le mn av mx b rest; omega
      have HN := Lib.hid hn
      clear hn
      have hi1 : (0 : Int) ≤ (n : Int) := Int.natCast_nonneg _
      have hi2 : (n : Int) ≤ (rest.size : Int) := by omega
      go_wp2_with (go_at_call 16; refine Calls.mono (cut_fit HF.out rest (by omega) _ (HL.out.on hB.out)) ?_; rintro e w1 ⟨rfl, hB1⟩; rw [← HN.out]; have HB1 := Lib.hid hB1; clear hB1; have hown1 := own_on hown HB1.out; have hSz1 := HB1.out.size; have hSz2 := hSz.out)
      go_region_held3 (fun _ => True) (trivial)
        ((refine step_append_lies _ (by rfl) _ _ _ (by rfl) (w.heap.size + 1) 9 i0 _ 1 16 Tryd.underlying26 hi hz0 hz1 hz2 rfl (by omega) u5 done.length _ (by rfl) ((hown1.alloc _).drew)
            ⟨w1.heap.size, 0, none⟩ 1 1 [.string (rest.extract 0 n)] (by rfl) (by rfl) (World.news_of_block (cs := #[.string (rest.extract 0 n)]) (t := 9) (fr := (0, 0)) (heap_alloc_new w1 _)) (by simp [Value.oneCell'])
            (by omega) (by unfold maxLen; omega) (by omega) (by simp; omega) (w1.heap.size + 1) (by simp) ?_; intro gg cap w2 hown2 hgrow hat hlt))
      have hb2 : Below (w.heap.size + 1) wr w2 := (((HB1.out.mono hSz2).alloc (by omega) _).drew).grown hgrow (by simp; omega) (fun k e => (hown1.lt k e).1)
      have hSz3 := hb2.size
      have hrs : (rest.extract n rest.size).size = rest.size - n := by rw [ByteArray.size_extract]; omega
      go_wp2
      go_roundw
      case rel => exact ⟨rest.extract n rest.size, done ++ [rest.extract 0 n], rfl, Lib.hid (hp.out.trans (by rw [pcs_cons _ _ _ _ hmm hm1 rest (by omega), ← HN.out, List.append_assoc]; rfl)), by rw [List.length_append, List.length_singleton, hrs]; omega,
        by simpa using hown2, Lib.hid (hB.out.trans (hb2.mono (Nat.le_succ _))), Lib.hid (by omega), (hb2.cell (p := ⟨w.heap.size, 0, none⟩) (Nat.lt_succ_self _)).trans c1, (hb2.cell (p := ⟨w.heap.size, 1, none⟩) (Nat.lt_succ_self _)).trans c2, (hb2.cell (p := ⟨w.heap.size, 2, none⟩) (Nat.lt_succ_self _)).trans c3⟩
      case measure => simp [strSize, hrs]; omega

theorem toList_pos (s : ByteArray) (h : 0 < s.size) : s.toList.isEmpty = false := by
  rw [Lib.toList_data]
  have : s.data.toList.length = s.size := by simp
  cases hl : s.data.toList with
  | nil => rw [hl] at this; simp at this; omega
  | cons x l => rfl
theorem size_zero {s : ByteArray} (h : s.size = 0) : s = ⟨#[]⟩ := by
  cases s with
  | mk d => congr 1; exact Array.size_eq_zero_iff.1 h

set_option maxHeartbeats 4000000 in
theorem rpieces_any {mn av mx b : Nat} (hf : FitN mn av mx b) (s : ByteArray) (hs : s.size ≤ 100000) (w : World) :
    Calls Tryd.prog 15 #[.agg #[.int .i64 mn, .int .i64 av, .int .i64 mx], .string s] w fun e w' => GotStrs w (pcs mn av mx b s) e w' := by
  obtain ⟨i0, hi, hz0, hz1, hz2⟩ := info_parts Tryd.infoS
  have hmm : mn ≤ mx := Nat.le_trans hf.min hf.max
  have hm1 := hf.one
  have HF := Lib.hid hf
  clear hf
  go_enter Tryd.func15, Tryd.ntmps15
  go_wp2
  obtain ⟨W0, hW0⟩ : ∃ W0, w.alloc (.cells #[.int .i64 mn, .int .i64 av, .int .i64 mx] 23) = W0 := ⟨_, rfl⟩
  have hsz : W0.heap.size = w.heap.size + 1 := by rw [← hW0]; simp only [World.size_alloc]
  have k1 : W0.cell? ⟨w.heap.size, 0, none⟩ = some (.int .i64 mn) := by rw [← hW0]; clear hsz hW0; go_simp
  have k2 : W0.cell? ⟨w.heap.size, 1, none⟩ = some (.int .i64 av) := by rw [← hW0]; clear hsz hW0; go_simp
  have k3 : W0.cell? ⟨w.heap.size, 2, none⟩ = some (.int .i64 mx) := by rw [← hW0]; clear hsz hW0; go_simp
  have hB0 : Below w.heap.size w W0 := by rw [← hW0]; clear hsz hW0; go_grown
  have hown0 : W0.ownsRow (w.heap.size + 1) 9 1 (.slice none 0 0) 0 [] := World.ownsRow_nil _ _ _ _
  rw [hW0]
  clear hW0
  have HB0 := Lib.hid hB0
  clear hB0
  go_loopw [1, 5] (fun sv l wr => ∃ (rest : ByteArray) (done : List ByteArray), sv = .string rest ∧ Hid (pcs mn av mx b s = done ++ pcs mn av mx b rest) ∧ done.length + rest.size ≤ s.size ∧ wr.ownsRow (w.heap.size + 1) 9 1 l done.length (done.map .string) ∧ Hid (Below w.heap.size w wr) ∧ Hid (w.heap.size + 1 ≤ wr.heap.size) ∧
      wr.cell? ⟨w.heap.size, 0, none⟩ = some (.int .i64 mn) ∧ wr.cell? ⟨w.heap.size, 1, none⟩ = some (.int .i64 av) ∧ wr.cell? ⟨w.heap.size, 2, none⟩ = some (.int .i64 mx)) (fun sv _ _ => strSize sv)
  case atStart => exact ⟨s, [], rfl, Lib.hid rfl, by simp, hown0, HB0, Lib.hid (by omega), k1, k2, k3⟩
  case round =>
    obtain ⟨rest, done, rfl, hp, hlen, hown, hB, hSz, c1, c2, c3⟩ := hrel
    by_cases h0 : rest.size = 0
    · have hem : rest.toList.isEmpty = true := by rw [Lib.toList_data, size_zero h0]; rfl
      go_wp2
      refine bodyPost_ret (results_tmp rfl _ _ _) rfl ?_
      exact ⟨_, rfl, by rw [hp.out, pcs_nil _ _ _ _ rest h0, List.append_nil]; exact strs_of_own hown, fun g hg => Nat.le_trans (Nat.le_succ _) (hown.lt g hg).1, hB.out⟩
    · obtain ⟨n, hn⟩ : ∃ n, n = cutN mn av mx b rest := ⟨_, rfl⟩
      have hn1 : 0 < n := by rw [hn]; exact cutN_pos _ _ _ _ _ hmm hm1 (by omega)
      have hn2 : n ≤ rest.size := by rw [hn]; have := cutN_le mn av mx b rest; omega
      have HN := Lib.hid hn
      clear hn
      have hi1 : (0 : Int) ≤ (n : Int) := Int.natCast_nonneg _
      have hi2 : (n : Int) ≤ (rest.size : Int) := by omega
      have hem : rest.toList.isEmpty = false := toList_pos rest (by omega)
      go_wp2_with (first | (go_at_call 17; refine Calls.mono (rcut_fit HF.out rest (by omega) _) ?_; rintro e w1 ⟨rfl, hB1⟩; rw [← HN.out]; have HB1 := Lib.hid hB1; clear hB1; have hown1 := own_on hown HB1.out; have hSz1 := HB1.out.size; have hSz2 := hSz.out) | (at_builtin; refine wpList_append_lies _ rfl _ _ _ rfl (w.heap.size + 1) 9 i0 _ 1 16 Tryd.underlying26 hi hz0 hz1 hz2 rfl (by omega) u5 done.length _ rfl (hown1.alloc _) ⟨w1.heap.size, 0, none⟩ 1 1 [.string (rest.extract 0 n)] rfl rfl (World.news_of_block (cs := #[.string (rest.extract 0 n)]) (t := 9) (fr := (0, 0)) (heap_alloc_new w1 _)) (by simp [Value.oneCell']) (by omega) (by unfold maxLen; omega) (by omega) (by simp; omega) (w1.heap.size + 1) (by simp) ?_; intro gg cap w2 hown2 hgrow hat hlt))
      have hb2 : Below (w.heap.size + 1) wr w2 := (((HB1.out.mono hSz2).alloc (by omega) _)).grown hgrow (by simp; omega) (fun k e => (hown1.lt k e).1)
      have hSz3 := hb2.size
      have hrs : (rest.extract n rest.size).size = rest.size - n := by rw [ByteArray.size_extract]; omega
      go_wp2
      go_roundw
      case rel => exact ⟨rest.extract n rest.size, done ++ [rest.extract 0 n], rfl, Lib.hid (hp.out.trans (by rw [pcs_cons _ _ _ _ hmm hm1 rest (by omega), ← HN.out, List.append_assoc]; rfl)), by rw [List.length_append, List.length_singleton, hrs]; omega,
        by simpa using hown2, Lib.hid (hB.out.trans (hb2.mono (Nat.le_succ _))), Lib.hid (by omega), (hb2.cell (p := ⟨w.heap.size, 0, none⟩) (Nat.lt_succ_self _)).trans c1, (hb2.cell (p := ⟨w.heap.size, 1, none⟩) (Nat.lt_succ_self _)).trans c2, (hb2.cell (p := ⟨w.heap.size, 2, none⟩) (Nat.lt_succ_self _)).trans c3⟩
      case measure => simp [strSize, hrs]; omega

end Go.Proofs.YtkcailgfggbigaaDoor
