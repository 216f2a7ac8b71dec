/-
  Slots as an index's bytes: the document's package.
-/
import Derived.Test.YtjjenpklcbpkmaaIWrt
import Derived.Deep.RegionHeld3
namespace Go.Proofs.Ytjjenpklcbpkmaa
open Go.RowKit Go.Proofs.Mem
set_option linter.unusedVariables false

theorem ba_app (a b : List UInt8) : (⟨a.toArray⟩ : ByteArray) ++ (⟨b.toArray⟩ : ByteArray) = ⟨(a ++ b).toArray⟩ := by
  apply ByteArray.ext
  simp
theorem ba_app' (a : List UInt8) (s : ByteArray) : (⟨a.toArray⟩ : ByteArray) ++ s = ⟨(a ++ s.data.toList).toArray⟩ := by
  apply ByteArray.ext
  simp
theorem ba_size (a : List UInt8) : (⟨a.toArray⟩ : ByteArray).size = a.length := rfl
theorem rword_int (a : Int) (w : World) (ha : numP a) :
    Calls Try.prog 35 #[.int .i64 a] w fun e w' => e = .returned (.string ⟨(wordL a.toNat).toArray⟩) ∧ Below w.heap.size w w' := by
  obtain ⟨n, rfl⟩ : ∃ n : Nat, a = (n : Int) := ⟨a.toNat, by have := ha.1; omega⟩
  have hn : n < 2147483648 := by have := ha.2; omega
  exact rword_any n w hn
theorem fanN_snoc {l : List Slt} {k : Nat} {x : Slt} (h : l[k]? = some x) (b : Nat) : fanN (l.take (k + 1)) b = if byteAt x.k 0 ≤ b then fanN (l.take k) b + 1 else fanN (l.take k) b := by
  unfold fanN
  rw [List.take_add_one, h, List.countP_append]
  by_cases hb : byteAt x.k 0 ≤ b
  · rw [if_pos hb]
    simp [hb]
  · rw [if_neg hb]
    simp [hb]

set_option maxHeartbeats 4000000 in
theorem rwrite_any (v : Value) (l : List Slt) (w : World) (h : Slots w w.heap.size v l) (hz : ∀ x ∈ l, x.k.size ≤ 9223372036854775807) :
    Calls Try.prog 11 #[v] w fun e w' => e = .returned (.string (writeB l)) ∧ Below w.heap.size w w' := by
  have HF := Lib.hid (fun W (hs : Slots W W.heap.size v l) => rfit_any v l W hs hz)
  have HV := Lib.hid h
  cases hf : fitP l with
  | false =>
    have hr : writeB l = ⟨#[]⟩ := by unfold writeB; rw [hf]; rfl
    have HR := Lib.hid hr
    rw [hf] at HF
    rw [HR.out]
    clear hf hr h
    go_enter Try.func11, Try.ntmps11
    go_wp2_with (go_at_call 22; refine Calls.mono (HF.out _ HV.out) ?_; rintro e w1 ⟨rfl, hB1⟩)
    go_ret
    exact ⟨rfl, hB1⟩
  | true =>
    rw [hf] at HF
    obtain ⟨r, hr⟩ : ∃ r, r = writeB l := ⟨_, rfl⟩
    rw [← hr]
    have HR : Hid (r = bodyB l ++ crcB (crcN (bodyB l))) := Lib.hid (by rw [hr]; unfold writeB; rw [hf]; rfl)
    have HAT := Lib.hid (fun x (hx : x ∈ l) => fit_at hf hx)
    have HLE := Lib.hid (fit_len hf)
    have h4 := fit_len hf
    obtain ⟨A, c, rfl, hc1, hc2, hR⟩ := h
    have HROW := Lib.hid hR
    clear hf hr hR hc1 hc2
    go_enter Try.func11, Try.ntmps11
    go_wp2_with (first
      | (go_at_call 22
         refine Calls.mono (HF.out _ HV.out) ?_
         rintro e w1 ⟨rfl, hB1⟩
         have HB1 := Lib.hid hB1
         clear hB1))
    go_loopw [3, 4, 5, 6] (fun s q _ _ wr => ∃ (k : Nat) (sb : ByteArray), q = .int .i64 k ∧ k ≤ 256 ∧ s = .string sb ∧ Hid (sb = ⟨(magicL ++ fansL l k).toArray⟩) ∧ sb.size ≤ 1028 ∧ Hid (Below w.heap.size w wr)) (fun _ q _ _ _ => 257 - (intOf q).toNat)
    case atStart => exact ⟨0, _, rfl, by omega, rfl, Lib.hid rfl, by decide, HB1⟩
    case round =>
      obtain ⟨k, sb, rfl, hk, rfl, hS, hsz, hB⟩ := hrel
      by_cases hlt : k < 256
      · have k1 : (k : Int) < 256 := by omega
        go_wp2_with fail
        go_loopw [5, 6] (fun nv q wq => ∃ j : Nat, q = .int .i64 j ∧ j ≤ l.length ∧ nv = .int .i64 (fanN (l.take j) k : Nat) ∧ Hid (Below w.heap.size w wq)) (fun _ q _ => l.length + 1 - (intOf q).toNat)
        case atStart => exact ⟨0, rfl, Nat.zero_le _, rfl, hB⟩
        case round =>
          obtain ⟨j, rfl, hj, rfl, hB⟩ := hrel
          by_cases hlj : j < l.length
          · obtain ⟨x, hx⟩ : ∃ x, l[j]? = some x := ⟨l[j], List.getElem?_eq_getElem hlj⟩
            obtain ⟨bb, o, rfl, hb, q0, q1, q2⟩ := row_slot HROW.out hx
            have p0 := (hB.out.cell (p := ⟨bb, o + j * 3, none⟩) hb).trans q0
            have hxz := (HAT.out x (List.mem_of_getElem? hx)).1
            have n0 : 0 < x.k.size := by omega
            have hxz' : x.k.size ≤ 9223372036854775807 := by omega
            have i1 : (j : Int) < (l.length : Int) := by omega
            have i0 : (0 : Int) ≤ (j : Int) := by omega
            have hye := byteAt_eq n0
            have HSN := Lib.hid (fanN_snoc hx k)
            have hle : fanN (l.take j) k ≤ 4096 := by have := fanN_le (l.take j) k; rw [List.length_take] at this; omega
            have hbl : (x.k[0]).toNat < 256 := UInt8.toNat_lt _
            rw [hye] at HSN
            clear q0 q1 q2 hx hxz hye
            by_cases hc : (x.k[0]).toNat ≤ k
            · have hc' : (((x.k[0]).toNat : Int) ≤ (k : Int)) := by omega
              rw [if_pos hc] at HSN
              go_wp2_with fail
              go_roundw
              case rel => exact ⟨j + 1, by go_num, by omega, by rw [HSN.out]; rfl, hB⟩
              case measure => simp [intOf]; omega
            · have hc' : ((((x.k[0]).toNat : Int) ≤ (k : Int))) = False := by simp; omega
              rw [if_neg hc] at HSN
              go_wp2_with fail
              go_roundw
              case rel => exact ⟨j + 1, by go_num, by omega, by rw [HSN.out], hB⟩
              case measure => simp [intOf]; omega
          · obtain rfl : j = l.length := by omega
            rw [List.take_length]
            have hcount : fanN l k < 2147483648 := by have := fanN_le l k; omega
            have HWD := Lib.hid (fun W => rword_any (fanN l k) W hcount)
            obtain ⟨wd, hwd⟩ : ∃ wd : ByteArray, wd = ⟨(wordL (fanN l k)).toArray⟩ := ⟨_, rfl⟩
            rw [← hwd] at HWD
            have hws : wd.size = 4 := by rw [hwd]; rfl
            have hws' : wd.size ≤ 4 := by omega
            have HWE := Lib.hid hwd
            have HWS := Lib.hid hws
            clear hwd hws
            go_wp2_with (go_at_call 35; refine (HWD.out _).mono ?_; rintro e w2 ⟨rfl, hB2⟩; have HB2 := Lib.hid (bel hB.out hB2); clear hB2)
            go_roundw
            case rel => exact ⟨k + 1, _, by go_num, by omega, rfl, Lib.hid (by rw [hS.out, HWE.out, ba_app, fansL_succ, List.append_assoc]), (by
              have h1 := hS.out
              rw [h1, HWE.out, ba_app, ba_size, List.append_assoc, ← fansL_succ, List.length_append, fansL_len]
              show 4 + _ ≤ _
              omega), HB2⟩
            case measure => simp [intOf]; omega
      · have k1 : ((k : Int) < 256) = False := by simp; omega
        have hS5 : Hid (sb = ⟨(magicL ++ fansL l 256 ++ entsL (l.take 0)).toArray⟩) := Lib.hid (by
          rw [hS.out, show k = 256 by omega, show entsL (l.take 0) = [] from rfl, List.append_nil])
        clear hS
        go_wp2_with fail
        go_loopw [3, 7] (fun s q wq => ∃ (j : Nat) (sb : ByteArray), q = .int .i64 j ∧ j ≤ l.length ∧ s = .string sb ∧ Hid (sb = ⟨(magicL ++ fansL l 256 ++ entsL (l.take j)).toArray⟩) ∧ sb.size ≤ 1028 + 40 * j ∧ Hid (Below w.heap.size w wq)) (fun _ q _ => l.length + 1 - (intOf q).toNat)
        case atStart => exact ⟨0, sb, rfl, Nat.zero_le _, rfl, hS5, by omega, hB⟩
        case round =>
          obtain ⟨j, sb, rfl, hj, rfl, hS, hsz', hB⟩ := hrel
          have hsz : sb.size ≤ 164868 := by omega
          have HSZ := Lib.hid hsz'
          clear hsz'
          by_cases hlj : j < l.length
          · obtain ⟨x, hx⟩ : ∃ x, l[j]? = some x := ⟨l[j], List.getElem?_eq_getElem hlj⟩
            obtain ⟨bb, o, rfl, hb, q0, q1, q2⟩ := row_slot HROW.out hx
            have KEEP : Hid (∀ W, Hid (Below w.heap.size w W) → W.cell? ⟨bb, o + j * 3, none⟩ = some (.string x.k) ∧ W.cell? ⟨bb, o + j * 3 + 1, none⟩ = some (.int .i64 x.a) ∧ W.cell? ⟨bb, o + j * 3 + 2, none⟩ = some (.int .i64 x.s) ∧ Hid (Below w.heap.size w W)) := Lib.hid (fun W hW =>
              ⟨(hW.out.cell (p := ⟨bb, o + j * 3, none⟩) hb).trans q0, (hW.out.cell (p := ⟨bb, o + j * 3 + 1, none⟩) hb).trans q1, (hW.out.cell (p := ⟨bb, o + j * 3 + 2, none⟩) hb).trans q2, hW⟩)
            have HXA := Lib.hid (HAT.out x (List.mem_of_getElem? hx))
            have hxz' : x.k.size ≤ 32 := by have := HXA.out.1; omega
            have i1 : (j : Int) < (l.length : Int) := by omega
            have i0 : (0 : Int) ≤ (j : Int) := by omega
            have HWA := Lib.hid (fun W => rword_int x.a W HXA.out.2.1)
            have HWS := Lib.hid (fun W => rword_int x.s W HXA.out.2.2)
            obtain ⟨wa, hwa⟩ : ∃ wd : ByteArray, wd = ⟨(wordL x.a.toNat).toArray⟩ := ⟨_, rfl⟩
            obtain ⟨ws, hws⟩ : ∃ wd : ByteArray, wd = ⟨(wordL x.s.toNat).toArray⟩ := ⟨_, rfl⟩
            rw [← hwa] at HWA
            rw [← hws] at HWS
            have hza : wa.size ≤ 4 := by rw [hwa]; exact Nat.le_refl _
            have hzs : ws.size ≤ 4 := by rw [hws]; exact Nat.le_refl _
            have hac1 : ¬9223372036854775807 < sb.size + x.k.size := by omega
            have hac2 : ¬9223372036854775807 < (sb ++ x.k).size + wa.size := by rw [ByteArray.size_append]; omega
            have hac3 : ¬9223372036854775807 < sb.size + x.k.size + wa.size := by omega
            have hac4 : ¬9223372036854775807 < (sb ++ x.k ++ wa).size + ws.size := by rw [ByteArray.size_append, ByteArray.size_append]; omega
            have hac5 : ¬9223372036854775807 < sb.size + x.k.size + wa.size + ws.size := by omega
            have HE : Hid (sb ++ x.k ++ wa ++ ws = ⟨(magicL ++ fansL l 256 ++ entsL (l.take (j + 1))).toArray⟩) := Lib.hid (by
              rw [hS.out, hwa, hws, ba_app', ba_app, ba_app, entsL_snoc hx]
              unfold entL
              simp only [List.append_assoc])
            have hs0 := KEEP.out _ (Lib.hid hB.out.drew)
            clear q0 q1 q2 hx hwa hws
            go_wp2_with fail
            go_region_held3 (fun W => W.cell? ⟨bb, o + j * 3, none⟩ = some (.string x.k) ∧ W.cell? ⟨bb, o + j * 3 + 1, none⟩ = some (.int .i64 x.a) ∧ W.cell? ⟨bb, o + j * 3 + 2, none⟩ = some (.int .i64 x.s) ∧ Hid (Below w.heap.size w W))
              (first
                | exact hs0
                | (go_split_ands; apply KEEP.out; assumption)
                | (go_split_ands; apply KEEP.out; apply Lib.hid; refine bel ?_ (by assumption); apply Hid.out; assumption))
              (first
                | (go_at_call_of 35 (Value.int .i64 x.a); refine Calls.mono (HWA.out _) ?_; rintro e wx ⟨rfl, hBx⟩)
                | (go_at_call_of 35 (Value.int .i64 x.s); refine Calls.mono (HWS.out _) ?_; rintro e wx ⟨rfl, hBx⟩))
            go_split_ands
            go_wp2_with fail
            go_roundw
            case rel => exact ⟨j + 1, _, by go_num, by omega, rfl, HE.out ▸ Lib.hid rfl, (by
              have h1 := HXA.out.1
              have h2 := HSZ.out
              simp only [ByteArray.size_append]
              omega), ‹Hid (Below w.heap.size w _)›⟩
            case measure => simp [intOf]; omega
          · obtain rfl : j = l.length := by omega
            rw [List.take_length] at hS
            have hS' : Hid (sb = bodyB l) := hS
            obtain ⟨cc, hcc⟩ : ∃ cc, cc = crcN sb := ⟨_, rfl⟩
            have hccl : cc < 4294967296 := by rw [hcc]; exact crcN_lt _
            have HSM := Lib.hid (fun W => rsum_any sb W (by omega))
            have HCB := Lib.hid (fun W => rbytes_any cc W hccl)
            have HR' : Hid (r = sb ++ crcB cc) := Lib.hid (by rw [HR.out, hcc, hS'.out])
            rw [← hcc] at HSM
            obtain ⟨cb, hcb⟩ : ∃ cb, cb = crcB cc := ⟨_, rfl⟩
            rw [← hcb] at HCB HR'
            have hcz : cb.size ≤ 4 := by rw [hcb, crcB_size]; exact Nat.le_refl _
            clear hcc hcb hS
            go_wp2_with (first
              | (go_at_call 26; refine Calls.mono (HSM.out _) ?_; rintro e w2 ⟨rfl, hB2⟩; have HB2 := Lib.hid (bel hB.out hB2); clear hB2)
              | (go_at_call 25; refine Calls.mono (HCB.out _) ?_; rintro e w3 ⟨rfl, hB3⟩; have HB3 := Lib.hid (bel HB2.out hB3); clear hB3))
            go_ret
            exact ⟨by rw [HR'.out]; rfl, HB3.out⟩

end Go.Proofs.Ytjjenpklcbpkmaa
