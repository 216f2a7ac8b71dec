/-
  A text packed: the document's.
-/
import Derived.Test.YtjmggbfhccdpkaaLPck
import Derived.Laws.IdiomStrings
import Derived.Deep.RegionWith
namespace Go.Proofs.Ytjmggbfhccdpkaa
open Go.RowKit Go.Shelf Go.Proofs.Mem
set_option linter.unusedVariables false

theorem conv_one (W : World) (g k : Nat) (hk : k < 256) (h : W.cell? ⟨g, 0, none⟩ = some (.int .u8 (k : Nat))) :
    Sem.run Try.prog (convert 26 9 (.slice (some ⟨g, 0, none⟩) 1 1)) W = .ok (.string ⟨#[UInt8.ofNat k]⟩) W := by
  have := run_convert_bytes_back (P := Try.prog) W 26 9 5 ⟨g, 0, none⟩ 1 [UInt8.ofNat k] Try.underlying26 Try.underlying5 Try.underlying9 (fun j hj => by
    obtain rfl : j = 0 := by simpa using hj
    show W.cell? ⟨g, 0, none⟩ = some (.int .u8 ((UInt8.ofNat k).toNat : Nat))
    rw [h, UInt8.toNat_ofNat', Nat.mod_eq_of_lt (by omega)])
  exact this
theorem conv_new (w : World) (k : Nat) (hk : k < 256) :
    Sem.run Try.prog (convert 26 9 (.slice (some ⟨w.heap.size, 0, none⟩) 1 1)) (w.alloc (.cells #[.int .u8 (k : Nat)] 5)) = .ok (.string ⟨#[UInt8.ofNat k]⟩) (w.alloc (.cells #[.int .u8 (k : Nat)] 5)) :=
  conv_one _ _ k hk (by rw [cell_of_row _ _ 0 _ _ (0, 0) (heap_alloc_new w _)]; rfl)

def rowB (r : ByteArray) : ByteArray := ⟨(rowL r.data.toList).toArray⟩
theorem rowB_eq {r : ByteArray} {m : Nat} (h : r.size = m + 1) : (⟨#[UInt8.ofNat m]⟩ : ByteArray) ++ r = rowB r := by
  apply ByteArray.ext
  apply Array.toList_inj.1
  have hl : r.data.toList.length = m + 1 := by rw [Array.length_toList]; exact h
  show ((⟨#[UInt8.ofNat m]⟩ : ByteArray) ++ r).data.toList = rowL r.data.toList
  unfold rowL
  rw [if_neg (fun e => by rw [e] at hl; simp at hl), hl, Nat.add_sub_cancel, ByteArray.data_append, Array.toList_append]
  rfl

theorem rrow_any (r : ByteArray) (w : World) (hr : r.size ≤ 128) :
    Calls Try.prog 20 #[.string r] w fun e w' => e = .returned (.string (rowB r)) ∧ Below w.heap.size w w' := by
  by_cases h0 : r.size = 0
  · have hre : r = ⟨#[]⟩ := ByteArray.size_eq_zero_iff.1 h0
    subst hre
    go_enter Try.func20, Try.ntmps20
    go_wp2_with fail
    go_ret
    exact ⟨rfl, Below.refl _ _⟩
  · obtain ⟨m, hm⟩ : ∃ m, r.size = m + 1 := ⟨r.size - 1, by omega⟩
    have hne : (r.toList == (⟨#[]⟩ : ByteArray).toList) = false := by
      rw [beq_eq_false_iff_ne, Lib.toList_data, Lib.toList_data]
      intro e
      have := congrArg List.length e
      rw [Array.length_toList] at this
      exact h0 this
    have hne2 : r.toList = [] ↔ False := by
      rw [Lib.toList_data]
      refine ⟨fun e => ?_, fun h => h.elim⟩
      have := congrArg List.length e
      rw [Array.length_toList] at this
      exact h0 this
    have hne3 : r.toList.isEmpty = false := by
      rw [List.isEmpty_eq_false_iff]
      exact fun e => (hne2.1 e)
    have HR := Lib.hid (rowB_eq hm)
    have w1 : IntKind.u8.wrap ((r.size : Int) - 1) = (m : Int) := by rw [show (r.size : Int) - 1 = (m : Int) by omega, wrap_u8, Nat.mod_eq_of_lt (by omega)]
    have hcv := fun W => conv_new W m (by omega)
    have hr1 : 1 ≤ r.size := by omega
    clear hm h0
    go_enter Try.func20, Try.ntmps20
    go_wp2_with fail
    go_ret
    exact ⟨by rw [← HR.out]; rfl, by go_grown⟩

theorem bcell {W w1 : World} (hb : Below W.heap.size W w1) : ∀ b o, b < W.heap.size → w1.cell? ⟨b, o, none⟩ = W.cell? ⟨b, o, none⟩ := fun b o h => hb.cell (p := ⟨b, o, none⟩) h
theorem cat_list (a b : ByteArray) : (a ++ b).data.toList = a.data.toList ++ b.data.toList := by rw [ByteArray.data_append, Array.toList_append]
theorem row_list (r : ByteArray) : (rowB r).data.toList = rowL r.data.toList := rfl
theorem one_list (x : UInt8) : (⟨#[x]⟩ : ByteArray).data.toList = [x] := rfl
theorem rowB_size (r : ByteArray) : (rowB r).size ≤ r.size + 1 := by
  have := row_le r.data.toList
  rw [Array.length_toList] at this
  exact this
theorem ext_one {s : ByteArray} {i : Nat} (h : i < s.size) : s.extract i (i + 1) = ⟨#[s[i]]⟩ := by
  refine ba_ext (by rw [ByteArray.size_extract]; show min (i + 1) s.size - i = 1; omega) fun j => ?_
  rcases Nat.eq_zero_or_pos j with rfl | hj
  · rw [byte_extract s i 1 0 (by decide) (by omega), byteAt_eq s (i + 0) h, byteAt_eq _ 0 (by show 0 < 1; decide)]
    rfl
  · have z1 : byteAt (s.extract i (i + 1)) j = 0 := by unfold byteAt; rw [dif_neg (by rw [ByteArray.size_extract]; omega)]
    have z2 : byteAt (⟨#[s[i]]⟩ : ByteArray) j = 0 := by unfold byteAt; rw [dif_neg (by show ¬ j < 1; omega)]
    rw [z1, z2]

theorem lt_alloc (w : World) (o : Obj) : w.heap.size < (w.alloc o).heap.size := by simp
theorem cell_one (w : World) (k : Nat) : (w.alloc (.cells #[.int .u8 (k : Nat)] 5)).cell? ⟨w.heap.size, 0, none⟩ = some (.int .u8 (k : Nat)) := by
  rw [cell_of_row _ _ 0 _ _ (0, 0) (heap_alloc_new w _)]; rfl
set_option maxRecDepth 100000 in
set_option maxHeartbeats 4000000 in
theorem rpack_any (s : ByteArray) (w : World) (hs : s.size ≤ 20000) :
    Calls Try.prog 8 #[.string s] w fun e w' => e = .returned (.string (packB s)) ∧ Below w.heap.size w w' := by
  have HS := Lib.hid hs
  go_enter Try.func8, Try.ntmps8
  go_wp2_with fail
  go_loopw [3, 4, 5, 6, 7] (fun ov qv iv _ _ wr => ∃ (i : Nat) (o q : ByteArray), ov = .string o ∧ qv = .string q ∧ iv = .int .i64 i ∧ i ≤ s.size ∧ Hid (packL s i o.data.toList q.data.toList = packL s 0 [] []) ∧ q.size < 128 ∧ o.size + q.size ≤ 13 * i ∧ Hid (Below w.heap.size w wr)) (fun _ _ iv _ _ _ => s.size + 1 - (intOf iv).toNat)
  case atStart => exact ⟨0, ⟨#[]⟩, ⟨#[]⟩, rfl, rfl, rfl, Nat.zero_le _, Lib.hid rfl, by decide, by decide, Lib.hid (Below.refl _ _)⟩
  case round =>
    obtain ⟨i, o, q, rfl, rfl, rfl, hi, HL, hq, ho, HB⟩ := hrel
    have HRW := Lib.hid (fun W => rrow_any q W (by omega))
    have hrq := rowB_size q
    have hbz : o.size + (rowB q).size ≤ 300000 := by omega
    by_cases hlt : i < s.size
    case neg =>
      have HE : Hid (o ++ rowB q = packB s) := Lib.hid (by
        apply ByteArray.ext
        apply Array.toList_inj.1
        rw [cat_list, row_list]
        unfold packB
        rw [← HL.out, pack_end hlt])
      have hil : (s.size : Int) ≤ (i : Int) := by omega
      go_wp2_with (go_at_call 20; refine Calls.mono (HRW.out _) ?_; rintro e w2 ⟨rfl, hb2⟩; have HB2 := Lib.hid (bel HB.out hb2); clear hb2)
      go_ret
      exact ⟨by rw [← HE.out]; rfl, HB2.out⟩
    have ilt : (i : Int) < (s.size : Int) := by omega
    obtain ⟨hn131, hnroom, hf2, hf4, hn4⟩ := bestP_le s i hi
    have HBB := Lib.hid (fun W => rbest_any s i W (by omega) hi)
    have HMT : Hid (¬ (bestP s i).1 = 0 → packL s i o.data.toList q.data.toList = _) := Lib.hid (fun h => pack_match hlt h)
    have HFU : Hid ((bestP s i).1 = 0 → q.data.toList.length + 1 = 128 → packL s i o.data.toList q.data.toList = _) := Lib.hid (fun h h2 => pack_full hlt h h2)
    have HLI : Hid ((bestP s i).1 = 0 → ¬ q.data.toList.length + 1 = 128 → packL s i o.data.toList q.data.toList = _) := Lib.hid (fun h h2 => pack_lit hlt h h2)
    obtain ⟨n, hn⟩ : ∃ n, n = (bestP s i).1 := ⟨_, rfl⟩
    obtain ⟨f, hf⟩ : ∃ n, n = (bestP s i).2 := ⟨_, rfl⟩
    rw [← hn] at hn131 hnroom hn4 HBB HMT HFU HLI
    rw [← hf] at hf2 hf4 HBB HMT
    have hn4' : n = 0 ∨ 4 ≤ n := by rcases hn4 with h | h; exact .inl h; exact .inr h.1
    have hql : q.data.toList.length = q.size := Array.length_toList
    have HX := Lib.hid (ext_one hlt)
    rw [hql] at HFU HLI
    clear hn hf hn4 hql
    rcases hn4' with rfl | h4
    · obtain ⟨q2, hq2⟩ : ∃ q2, q2 = q ++ s.extract i (i + 1) := ⟨_, rfl⟩
      have hq2l : q2.data.toList = q.data.toList ++ [s[i]] := by rw [hq2, cat_list, HX.out, one_list]
      have hq2s : q2.size = q.size + 1 := by rw [hq2, ByteArray.size_append, ByteArray.size_extract]; omega
      have hq2r : q ++ s.extract i (i + 1) = q2 := hq2.symm
      have HRW2 := Lib.hid (fun W => rrow_any q2 W (by omega))
      have hrs := rowB_size q2
      rw [← hq2l] at HFU HLI
      have HQS := Lib.hid hq2s
      have hq2le : q2.size ≤ 128 := by omega
      clear hq2l
      by_cases hfull : q.size + 1 = 128
      · have hq128 : ((q2.size : Int) == 128) = true := by rw [beq_iff_eq]; omega
        have HLL : Hid (packL s (i + 1) (o ++ rowB q2).data.toList (⟨#[]⟩ : ByteArray).data.toList = packL s 0 [] []) := Lib.hid (by rw [cat_list, row_list, ← HL.out, HFU.out rfl hfull])
        have HOO : Hid ((o ++ rowB q2).size + 0 ≤ 13 * (i + 1)) := Lib.hid (by rw [ByteArray.size_append]; omega)
        have hbz2 : o.size + (rowB q2).size ≤ 300000 := by omega
        clear hfull HMT HFU HLI hq2 hq2s hrs
        go_wp2_with (first
          | (go_at_call 19; refine Calls.mono (HBB.out _) ?_; rintro e w1 ⟨rfl, m1, rfl⟩)
          | (go_at_call 20; refine Calls.mono (HRW2.out _) ?_; rintro e w2 ⟨rfl, hb2⟩; have HB2 := Lib.hid (bel (below_drewN HB.out m1) hb2); clear hb2))
        go_roundw
        case rel => exact ⟨i + 1, o ++ rowB q2, ⟨#[]⟩, rfl, rfl, by go_num, by omega, HLL, by decide, HOO.out, HB2⟩
        case measure => simp [intOf]; omega
      · have hq128 : ((q2.size : Int) == 128) = false := by rw [beq_eq_false_iff_ne]; omega
        have HLL : Hid (packL s (i + 1) o.data.toList q2.data.toList = packL s 0 [] []) := Lib.hid (by rw [← HL.out, HLI.out rfl hfull])
        have hq2lt : q2.size < 128 := by omega
        have hoo : o.size + q2.size ≤ 13 * (i + 1) := by omega
        clear hfull HMT HFU HLI hq2 hq2s hrs
        go_wp2_with (go_at_call 19; refine Calls.mono (HBB.out _) ?_; rintro e w1 ⟨rfl, m1, rfl⟩)
        go_roundw
        case rel => exact ⟨i + 1, o, q2, rfl, rfl, by go_num, by omega, HLL, hq2lt, hoo, Lib.hid (below_drewN HB.out m1)⟩
        case measure => simp [intOf]; omega
    · have HLL : Hid (packL s (i + n) (o ++ rowB q ++ ⟨#[UInt8.ofNat (n + 124)]⟩ ++ putB f).data.toList (⟨#[]⟩ : ByteArray).data.toList = packL s 0 [] []) := Lib.hid (by rw [cat_list, cat_list, cat_list, row_list, one_list, ← HL.out, HMT.out (by omega)])
      have hps := putB_len f
      have hrs := rowB_size q
      have HOO : Hid ((o ++ rowB q ++ ⟨#[UInt8.ofNat (n + 124)]⟩ ++ putB f).size + 0 ≤ 13 * (i + n)) := Lib.hid (by
        rw [ByteArray.size_append, ByteArray.size_append, ByteArray.size_append]
        have : (⟨#[UInt8.ofNat (n + 124)]⟩ : ByteArray).size = 1 := rfl
        omega)
      have hn0 : ((n : Int) == 0) = false := by rw [beq_eq_false_iff_ne]; omega
      obtain ⟨k, hk⟩ : ∃ k, k = n + 124 := ⟨_, rfl⟩
      have w1 : IntKind.i64.wrap ((n : Int) + 124) = (k : Int) := by rw [IntKind.wrap_i64]; omega
      have w2 : IntKind.u8.wrap (k : Int) = (k : Int) := by rw [wrap_u8, Nat.mod_eq_of_lt (by omega)]
      have w4 : IntKind.u64.wrap (f : Int) = (f : Int) := by rw [IntKind.wrap_u64]; omega
      have hcv : ∀ (W : World) (g : Nat), W.cell? ⟨g, 0, none⟩ = some (.int .u8 (k : Nat)) → Sem.run Try.prog (convert 26 9 (.slice (some ⟨g, 0, none⟩) 1 1)) W = .ok (.string ⟨#[UInt8.ofNat k]⟩) W := fun W g h => conv_one W g k (by omega) h
      have hcv2 := fun W => conv_new W k (by omega)
      have z1 : (9223372036854775807 < o.size + (rowB q).size) = False := by simp; omega
      have z2 : (9223372036854775807 < o.size + (rowB q).size + 1) = False := by simp; omega
      have z3 : (9223372036854775807 < o.size + (rowB q).size + 1 + (putB f).size) = False := by simp; omega
      have HV := Lib.hid (fun W => rput_any f W (by omega))
      rw [← hk] at HLL HOO
      clear HMT HFU HLI hps hrs hk
      go_wp2_with (go_at_call 19; refine Calls.mono (HBB.out _) ?_; rintro e w1 ⟨rfl, m1, rfl⟩)
      have HBr := Lib.hid (below_drewN HB.out m1)
      clear HBB HB
      generalize wr.drewN m1 = w5 at *
      have HBw : Hid (Below w.heap.size w w5.drew) := Lib.hid HBr.out.drew
      go_region_with
        (first
          | (go_at_call 20; refine Calls.mono (HRW.out _) ?_; rintro e wa ⟨rfl, hba⟩; have HBa : Hid (Below w.heap.size w wa) := Lib.hid (bel (by first | exact (Hid.out ‹Hid (Below w.heap.size w _)›) | exact ((Hid.out ‹Hid (Below w.heap.size w _)›).alloc (Hid.out ‹Hid (Below w.heap.size w _)›).size _)) hba); have hca := bcell hba; have hsa := hba.size; clear hba
             first
               | (have hcla := (hca _ _ (lt_alloc w5 _)).trans (cell_one w5 k); have hlta := Nat.lt_of_lt_of_le (lt_alloc w5 _) hsa; have hk1 := hcv _ _ hcla)
               | (have hcla := (hca _ _ (lt_alloc wb _)).trans (cell_one wb k); have hk1 := hcv _ _ hcla)
               | (have hcla := (hca _ _ hltb).trans hclb; have hk1 := hcv _ _ hcla)
               | skip)
          | (go_at_call 21; refine Calls.mono (HV.out _) ?_; rintro e wb ⟨rfl, hbb⟩; have HBb : Hid (Below w.heap.size w wb) := Lib.hid (bel (by first | exact (Hid.out ‹Hid (Below w.heap.size w _)›) | exact ((Hid.out ‹Hid (Below w.heap.size w _)›).alloc (Hid.out ‹Hid (Below w.heap.size w _)›).size _)) hbb); have hcb := bcell hbb; have hsb := hbb.size; clear hbb
             first
               | (have hclb := (hcb _ _ (lt_alloc w5 _)).trans (cell_one w5 k); have hltb := Nat.lt_of_lt_of_le (lt_alloc w5 _) hsb; have hk2 := hcv _ _ hclb)
               | (have hclb := (hcb _ _ (lt_alloc wa _)).trans (cell_one wa k); have hk2 := hcv _ _ hclb)
               | (have hclb := (hcb _ _ hlta).trans hcla; have hk2 := hcv _ _ hclb)
               | skip))
      all_goals (go_wp2_with fail; go_roundw)
      all_goals first
        | exact ⟨i + n, o ++ rowB q ++ ⟨#[UInt8.ofNat k]⟩ ++ putB f, ⟨#[]⟩, rfl, rfl, by go_num, by omega, HLL, by decide, HOO.out, Lib.hid (by first | exact (Hid.out ‹Hid (Below w.heap.size w _)›) | exact ((Hid.out ‹Hid (Below w.heap.size w _)›).alloc (Hid.out ‹Hid (Below w.heap.size w _)›).size _))⟩
        | (simp [intOf]; omega)

end Go.Proofs.Ytjmggbfhccdpkaa
