/-
  BloomNone: the walk.
-/
import Derived.Test.YtingloamfpibaaaBDoes
import Derived.Deep.CutRange
namespace Go.Proofs.Ytingloamfpibaaa
open Go.RowKit Go.Proofs.Mem
set_option linter.unusedVariables false

/-- A sieve lies in a block of the call's own. -/
def BloF (W : World) (B : Nat) (bi h : Int) (d : ByteArray) : Prop := Blo W B bi h d ∧ ∀ o, W.frozen? ⟨B, o, none⟩ = false
theorem BloF.kept {W W' : World} {B : Nat} {bi h : Int} {d : ByteArray} (hB : Below W.heap.size W W') (hb : BloF W B bi h d) : BloF W' B bi h d :=
  ⟨hb.1.kept hB, fun o => (hB.frozen (p := ⟨B, o, none⟩) hb.1.lt).trans (hb.2 o)⟩

/-- What the functions tell of sieves of one shape. -/
def ShapeAre (bi ha : Int) (S : Nat) (f : ByteArray → ByteArray → ByteArray) (g : ByteArray → ByteArray → Bool) : Prop :=
  (∀ k d W, d.size = S → Calls Try.prog 14 #[.agg #[.int .i64 bi, .int .i64 ha, .string d], .string k] W fun e w' => e = .returned (.agg #[.int .i64 bi, .int .i64 ha, .string (f k d)]) ∧ Below W.heap.size W w') ∧
  (∀ k d W, d.size = S → Calls Try.prog 16 #[.agg #[.int .i64 bi, .int .i64 ha, .string d], .string k] W fun e w' => e = .returned (.bool (g k d)) ∧ Below W.heap.size W w')
theorem shape_are (e H : Nat) (he : e ≤ 10) (h8 : H ≤ 8) : ShapeAre ((64 * 2 ^ e : Nat) : Int) H (8 * 2 ^ e) (fun k d => addF k (64 * 2 ^ e) H d) (fun k d => hasF k (64 * 2 ^ e) H d) :=
  ⟨fun k d W hd => badd_any e H d k W he h8 hd, fun k d W hd => bhas_any e H d k W he h8 hd⟩

/-- Three variables of one sieve: two new blocks. -/
def Three (W wx : World) (Bb : Nat) (bi h : Int) (z : ByteArray) (p q r : Value) : Prop :=
  ∃ P Q, p = .pointer (some ⟨P, 0, none⟩) ∧ q = .pointer (some ⟨Q, 0, none⟩) ∧ r = .int .i64 0 ∧ P ≠ Q ∧ Bb ≠ P ∧ Bb ≠ Q ∧ W.heap.size ≤ Q ∧ Blo wx P bi h z ∧ BloF wx Q bi h z ∧ BloF wx Bb bi h z ∧ Below W.heap.size W wx

/-- A sieve behind some keys. -/
def fo (f : ByteArray → ByteArray → ByteArray) (l : List ByteArray) (z : ByteArray) : ByteArray := l.foldl (fun d x => f x d) z
theorem fo_succ (f : ByteArray → ByteArray → ByteArray) (l : List ByteArray) (z : ByteArray) (k : Nat) (x : ByteArray) (h : l[k]? = some x) : fo f (l.take (k + 1)) z = f x (fo f (l.take k) z) := by
  unfold fo
  rw [List.take_add_one, h, List.foldl_append]
  rfl
theorem fo_size (f : ByteArray → ByteArray → ByteArray) (hf : ∀ k d, (f k d).size = d.size) (l : List ByteArray) (z : ByteArray) : (fo f l z).size = z.size := by
  unfold fo
  induction l generalizing z with
  | nil => rfl
  | cons x l ih => rw [List.foldl_cons, ih, hf]
/-- NONE IS MISSED, plainly. -/
theorem none_law (E H S : Nat) (f : ByteArray → ByteArray → ByteArray) (g : ByteArray → ByteArray → Bool) (z : ByteArray) (l o : List ByteArray) (hS : S = 8 * 2 ^ E) (hz : z.size = S)
    (hf : f = fun k d => addF k (64 * 2 ^ E) H d) (hg : g = fun k d => hasF k (64 * 2 ^ E) H d) :
    (∀ x ∈ l ++ o, g x (joinB (fo f l z) (fo f o z)) = decide (x.size = 32)) ∧ ∀ x ∈ l, g x (fo f l z) = decide (x.size = 32) := by
  have hp1 : 1 ≤ 2 ^ E := Nat.one_le_two_pow
  have hfo : ∀ l, fo f l z = adds (64 * 2 ^ E) H l z := by intro l; rw [hf]; rfl
  have h1 : ∀ l : List ByteArray, ∀ x ∈ l, x.size = 32 → g x (fo f l z) = true := by
    intro l x hx h32
    rw [hg, hfo l]
    exact adds_has (64 * 2 ^ E) H l z x (by omega) (by omega) h32 hx
  have hsz : (fo f o z).size = (fo f l z).size := by rw [hfo, hfo, adds_size, adds_size]
  refine ⟨fun x hx => ?_, fun x hx => ?_⟩
  · by_cases h32 : x.size = 32
    · rw [decide_eq_true h32]
      have : g x (fo f l z) = true ∨ g x (fo f o z) = true := by
        rcases List.mem_append.1 hx with h | h
        · exact .inl (h1 l x h h32)
        · exact .inr (h1 o x h h32)
      rw [hg] at this ⊢
      exact has_join x (64 * 2 ^ E) H _ _ hsz this
    · rw [decide_eq_false h32, hg]
      exact hasF_no x _ _ _ h32
  · by_cases h32 : x.size = 32
    · rw [decide_eq_true h32]
      exact h1 l x hx h32
    · rw [decide_eq_false h32, hg]
      exact hasF_no x _ _ _ h32
theorem inK_congr (g h : ByteArray → Bool) (l : List ByteArray) (hgh : ∀ x ∈ l, g x = h x) : inK g l l.length = inK h l l.length := by
  unfold inK
  rw [List.take_length]
  exact List.filter_congr hgh
theorem onesB_le (d : ByteArray) : onesB d ≤ 8 * d.size := onesK_le d d.size
/-- Stores into a block leave the others. -/
theorem Blo.set {W : World} {B C o : Nat} {bi h : Int} {d : ByteArray} {v : Value} (hb : Blo W B bi h d) (hne : B ≠ C) : Blo (W.setCell ⟨C, o, none⟩ v) B bi h d := by
  obtain ⟨h0, h1, h2⟩ := hb
  exact ⟨by go_simp, by go_simp, by go_simp⟩
theorem BloF.set {W : World} {B C o : Nat} {bi h : Int} {d : ByteArray} {v : Value} (hb : BloF W B bi h d) (hne : B ≠ C) : BloF (W.setCell ⟨C, o, none⟩ v) B bi h d := by
  refine ⟨hb.1.set hne, fun q => ?_⟩
  have := hb.2 q
  go_simp
/-- A sieve is laid into a block. -/
theorem BloF.store {W : World} {B : Nat} {bi h b1 h1 : Int} {d z : ByteArray} (hb : BloF W B b1 h1 z) : BloF (((W.setCell ⟨B, 0, none⟩ (.int .i64 bi)).setCell ⟨B, 1, none⟩ (.int .i64 h)).setCell ⟨B, 2, none⟩ (.string d)) B bi h d := by
  obtain ⟨⟨h0, h1, h2⟩, h3⟩ := hb
  refine ⟨⟨by go_simp, by go_simp, by go_simp⟩, fun q => ?_⟩
  have := h3 q
  go_simp
/-- What the order of 'b, ones = d, Ones(d)' leaves. -/
def KeepS (w W : World) (D Bb P Q : Nat) (bi h : Int) (d z : ByteArray) : Prop :=
  W.cell? ⟨D, 0, none⟩ = some (.int .i64 bi) ∧ W.cell? ⟨D, 1, none⟩ = some (.int .i64 h) ∧ W.cell? ⟨D, 2, none⟩ = some (.string d) ∧ (∀ o, W.frozen? ⟨Bb, o, none⟩ = false) ∧ Hid (Blo W P bi h z ∧ BloF W Q bi h z ∧ Below w.heap.size w W)
theorem keepS_at {w W : World} {D Bb P Q : Nat} {bi h : Int} {d b z : ByteArray} (hd : Blo W D bi h d) (hb : BloF W Bb bi h b) (hp : Blo W P bi h z) (hq : BloF W Q bi h z) (hw : Below w.heap.size w W) : KeepS w W D Bb P Q bi h d z :=
  ⟨hd.1, hd.2.1, hd.2.2, hb.2, Lib.hid ⟨hp, hq, hw⟩⟩
theorem keepS_store {w W : World} {D Bb P Q : Nat} {bi h : Int} {d b z : ByteArray} (hd : Blo W D bi h d) (hb : BloF W Bb bi h b) (hp : Blo W P bi h z) (hq : BloF W Q bi h z) (hw : Below w.heap.size w W)
    (h1 : D ≠ Bb) (h2 : P ≠ Bb) (h3 : Q ≠ Bb) (h4 : w.heap.size ≤ Bb) : KeepS w (((W.setCell ⟨Bb, 0, none⟩ (.int .i64 bi)).setCell ⟨Bb, 1, none⟩ (.int .i64 h)).setCell ⟨Bb, 2, none⟩ (.string d)) D Bb P Q bi h d z :=
  keepS_at (((hd.set h1).set h1).set h1) hb.store (((hp.set h2).set h2).set h2) (((hq.set h3).set h3).set h3) (((hw.setCell (p := ⟨Bb, 0, none⟩) h4 _).setCell (p := ⟨Bb, 1, none⟩) h4 _).setCell (p := ⟨Bb, 2, none⟩) h4 _)
theorem BloF.drew {W : World} {B : Nat} {bi h : Int} {d : ByteArray} (hb : BloF W B bi h d) : BloF W.drew B bi h d := hb
theorem BloF.alloc {W : World} {B : Nat} {bi h : Int} {d : ByteArray} (o : Obj) (hb : BloF W B bi h d) : BloF (W.alloc o) B bi h d := hb.kept ((Below.refl _ _).alloc (Nat.le_refl _) _)
theorem BloF.new (W : World) (bi h : Int) (d : ByteArray) (t : TypeId) : BloF (W.alloc (.cells #[.int .i64 bi, .int .i64 h, .string d] t)) W.heap.size bi h d := by
  refine ⟨Blo.new W bi h d t, fun o => ?_⟩
  have hh : (W.alloc (.cells #[.int .i64 bi, .int .i64 h, .string d] t)).heap[W.heap.size]? = some (.cells #[.int .i64 bi, .int .i64 h, .string d] t) := heap_alloc_new W _
  exact frozen_of_row _ _ o _ _ hh
theorem two_new (W : World) (bi h : Int) (d : ByteArray) (t : TypeId) : BloF (((W.alloc (.cells #[.int .i64 bi, .int .i64 h, .string d] t)).alloc (.cells #[.int .i64 bi, .int .i64 h, .string d] t)).drew) W.heap.size bi h d ∧
    BloF (((W.alloc (.cells #[.int .i64 bi, .int .i64 h, .string d] t)).alloc (.cells #[.int .i64 bi, .int .i64 h, .string d] t)).drew) (W.heap.size + 1) bi h d := by
  refine ⟨((BloF.new W bi h d t).alloc _).drew, ?_⟩
  have := BloF.new (W.alloc (.cells #[.int .i64 bi, .int .i64 h, .string d] t)) bi h d t
  rw [World.size_alloc] at this
  exact this.drew
theorem three_a {W : World} {Bb : Nat} {bi h : Int} {z : ByteArray} {t : TypeId} (hb : BloF W Bb bi h z) : Three W (((W.alloc (.cells #[.int .i64 bi, .int .i64 h, .string z] t)).alloc (.cells #[.int .i64 bi, .int .i64 h, .string z] t)).drew) Bb bi h z (.pointer (some ⟨W.heap.size, 0, none⟩)) (.pointer (some ⟨W.heap.size + 1, 0, none⟩)) (.int .i64 0) := by
  obtain ⟨h1, h2⟩ := two_new W bi h z t
  have hl := hb.1.lt
  exact ⟨_, _, rfl, rfl, rfl, by omega, by omega, by omega, by omega, h1.1, h2, ((hb.alloc _).alloc _).drew, (((Below.refl _ _).alloc (Nat.le_refl _) _).alloc (by rw [World.size_alloc]; omega) _).drew⟩
theorem three_b {W : World} {Bb : Nat} {bi h : Int} {z : ByteArray} {t : TypeId} (hb : BloF W Bb bi h z) : Three W (((W.alloc (.cells #[.int .i64 bi, .int .i64 h, .string z] t)).alloc (.cells #[.int .i64 bi, .int .i64 h, .string z] t)).drew) Bb bi h z (.pointer (some ⟨W.heap.size + 1, 0, none⟩)) (.pointer (some ⟨W.heap.size, 0, none⟩)) (.int .i64 0) := by
  obtain ⟨h1, h2⟩ := two_new W bi h z t
  have hl := hb.1.lt
  exact ⟨_, _, rfl, rfl, rfl, by omega, by omega, by omega, by omega, h2.1, h1, ((hb.alloc _).alloc _).drew, (((Below.refl _ _).alloc (Nat.le_refl _) _).alloc (by rw [World.size_alloc]; omega) _).drew⟩

set_option maxRecDepth 100000 in
set_option maxHeartbeats 2000000 in
theorem none_walk (n m : Nat) (l o : List ByteArray) (u v : Value) (w : World) (hs : Strs w w.heap.size u l) (ho : Strs w w.heap.size v o) (hn : n < 256) (hm : m < 256) :
    Calls Try.prog 4 #[.int .u8 n, .int .u8 m, u, v] w fun e w' => e = .returned (.bool true) ∧ Below w.heap.size w w' := by
  obtain ⟨A1, c1, rfl, hm1, hm2, hr1⟩ := hs
  obtain ⟨A2, c2, rfl, hm3, hm4, hr2⟩ := ho
  have HM1 := Lib.hid hm1
  have HM2 := Lib.hid hm2
  have HR1 := Lib.hid hr1
  have HM3 := Lib.hid hm3
  have HM4 := Lib.hid hm4
  have HR2 := Lib.hid hr2
  clear hr1 hm1 hm2 hr2 hm3 hm4
  have HST : Hid (∀ W, Below w.heap.size w W → Strs W W.heap.size (.slice A1 l.length c1) l) := Lib.hid fun W h => (Strs.below ⟨A1, c1, rfl, HM1.out, HM2.out, HR1.out⟩ h).more h.size
  have HSO : Hid (∀ W, Below w.heap.size w W → Strs W W.heap.size (.slice A2 o.length c2) o) := Lib.hid fun W h => (Strs.below ⟨A2, c2, rfl, HM3.out, HM4.out, HR2.out⟩ h).more h.size
  by_cases hbig : fewB l = true ∧ fewB o = true
  · obtain ⟨hf, hg⟩ := hbig
    have HF := Lib.hid hf
    have HG := Lib.hid hg
    clear hf hg
    obtain ⟨E, hE⟩ : ∃ E, E = n % 6 := ⟨_, rfl⟩
    obtain ⟨H, hH⟩ : ∃ H, H = m % 8 + 1 := ⟨_, rfl⟩
    have hE5 : E ≤ 5 := by omega
    have hH8 : H ≤ 8 := by omega
    have hH1 : 1 ≤ H := by omega
    obtain ⟨bi, hbi⟩ : ∃ bi : Int, bi = ((64 * 2 ^ E : Nat) : Int) := ⟨_, rfl⟩
    obtain ⟨S, hS⟩ : ∃ S, S = 8 * 2 ^ E := ⟨_, rfl⟩
    have hp : 2 ^ E ≤ 2 ^ 5 := Nat.pow_le_pow_right (by decide) hE5
    have hp1 : 1 ≤ 2 ^ E := Nat.one_le_two_pow
    have hwr : wrap64 (64 * 2 ^ (n % 6)) = bi := by
      have e : (64 * 2 ^ (n % 6) : Int) = ((64 * 2 ^ E : Nat) : Int) := by rw [hE, Int.natCast_mul, Int.natCast_pow]; rfl
      rw [e, hbi]
      unfold wrap64
      omega
    have hmr : (m : Int) % 8 + 1 = (H : Int) := by omega
    obtain ⟨z, hz⟩ : ∃ z, z = zerosB S := ⟨_, rfl⟩
    have hzs : z.size = S := by rw [hz, zerosB_size]
    have n1 : ∀ W, Calls Try.prog 8 #[.int .i64 bi, .int .i64 (H : Int)] W fun e w' => e = .returned (.tuple #[.agg #[.int .i64 bi, .int .i64 (H : Int), .string z], .int .i64 0]) ∧ Below W.heap.size W w' := fun W => by
      have h := bnew_any bi H W (by omega) (by omega)
      have hsh : shapeB bi (H : Int) = true := by
        unfold shapeB
        rw [decide_eq_true (p := 1 ≤ (H : Int)) (by omega), decide_eq_true (p := (H : Int) ≤ 8) (by omega), Bool.true_and, Bool.true_and]
        exact (sizes_mem bi).2 ⟨E, by omega, hbi⟩
      rw [hsh, if_pos rfl, show (bi / 8).toNat = S by omega, ← hz] at h
      exact h
    obtain ⟨f, hff⟩ : ∃ f : ByteArray → ByteArray → ByteArray, f = fun k d => addF k (64 * 2 ^ E) H d := ⟨_, rfl⟩
    obtain ⟨g, hgg⟩ : ∃ g : ByteArray → ByteArray → Bool, g = fun k d => hasF k (64 * 2 ^ E) H d := ⟨_, rfl⟩
    have hA : ShapeAre bi H S f g := by rw [hff, hgg, hbi, hS]; exact shape_are E H (by omega) hH8
    have HA := Lib.hid hA
    have HWR := Lib.hid hwr
    have HMR := Lib.hid hmr
    have HZ := Lib.hid hz
    have HZS := Lib.hid hzs
    have HFF := Lib.hid hff
    have HGG := Lib.hid hgg
    have HBI := Lib.hid hbi
    have HSS := Lib.hid hS
    have HEE := Lib.hid hE5
    have HSM : Hid (S ≤ 1000) := Lib.hid (by omega)
    have H18 : Hid (1 ≤ H ∧ H ≤ 8) := Lib.hid ⟨hH1, hH8⟩
    have HFS : Hid (∀ k d, (f k d).size = d.size) := Lib.hid (by rw [hff]; intro k d; exact addF_size _ _ _ _)
    have HGZ : Hid (∀ k, g k z = false) := Lib.hid (by rw [hgg, hz]; intro k; exact hasF_zeros _ _ _ _ hH1)
    have HON : Hid (∀ k d, d.size = S → onesB d ≤ onesB (f k d) ∧ onesB (f k d) ≤ onesB d + H ∧ (k.size ≠ 32 → onesB (f k d) = onesB d)) := Lib.hid (by rw [hff]; intro k d hd; exact ones_addF k (64 * 2 ^ E) H d (by omega) (by omega))
    have HOZ : Hid (onesB z = 0) := Lib.hid (by rw [hz]; exact ones_zeros _)
    clear hA hwr hmr hz hzs hff hgg hbi hS hE5 hp hp1 hE hH hH8 hH1
    go_enter Try.func4, Try.ntmps4
    go_wp2_with (first
      | (go_at_call 6
         first
           | (refine Calls.mono (few_any l _ _ (HST.out _ (by go_grown))) ?_
              rw [HF.out]
              rintro e w1 ⟨rfl, hB1⟩
              have HW1 := Lib.hid hB1
              clear hB1)
           | (refine Calls.mono (few_any o _ _ (HSO.out _ HW1.out)) ?_
              rw [HG.out]
              rintro e w2 ⟨rfl, hB2⟩
              have HW2 := Lib.hid (bel HW1.out hB2)
              clear hB2))
      | (go_at_call 8
         rw [HWR.out, HMR.out]
         refine Calls.mono (n1 _) ?_
         rintro e w3 ⟨rfl, hB3⟩
         have HW3 := Lib.hid (bel (bel HW2.out hB3) ((Below.refl _ _).alloc (Nat.le_refl _) (.cells #[.int .i64 bi, .int .i64 (H : Int), .string z] 23)))
         have HW3w : Hid (w.heap.size ≤ w3.heap.size) := Lib.hid (bel HW2.out hB3).size
         have HB3 := Lib.hid (show BloF (w3.alloc (.cells #[.int .i64 bi, .int .i64 (H : Int), .string z] 23)) w3.heap.size bi H z from ⟨Blo.new w3 bi H z 23, fun o => by go_simp⟩)
         clear hB3))
    generalize w3.alloc (.cells #[.int .i64 bi, .int .i64 (H : Int), .string z] 23) = W4 at *
    obtain ⟨⟨b0, b1, b2⟩, bf⟩ := HB3.out
    clear n1
    go_cut [11, 12, 13] from 50 to 51 (fun p q r wx => Hid (Three W4 wx w3.heap.size bi H z p q r))
    case first =>
      have HBb : Hid (Blo W4 w3.heap.size bi H z) := Lib.hid HB3.out.1
      have hS0 := keep1 HBb (Lib.hid (Below.refl W4.heap.size W4).drew)
      go_region_held3 (fun w' => w'.cell? ⟨w3.heap.size, 0, none⟩ = some (.int .i64 bi) ∧ w'.cell? ⟨w3.heap.size, 1, none⟩ = some (.int .i64 (H : Int)) ∧ w'.cell? ⟨w3.heap.size, 2, none⟩ = some (.string z) ∧ Hid (Below W4.heap.size W4 w'))
        (first
          | exact hS0
          | exact keep1 HBb (Lib.hid (by go_grown)))
        (first
          | fail)
      · go_wp2
        go_meet
        exact Lib.hid (three_a HB3.out)
      · go_wp2
        go_meet
        exact Lib.hid (three_b HB3.out)
    case rest =>
      rename World => W5
      obtain ⟨P, Q, rfl, rfl, rfl, hPQ, hbP, hbQ, hQ4, hP5, hQ5, hB5, hW5⟩ := hcut.out
      have HQw : Hid (w.heap.size ≤ Q) := Lib.hid (Nat.le_trans HW3.out.size hQ4)
      have HP5 := Lib.hid hP5
      clear hQ4
      have HQ5 := Lib.hid hQ5
      have HB5 := Lib.hid hB5
      have HW5 : Hid (Below w.heap.size w W5) := Lib.hid (bel HW3.out hW5)
      clear hcut hP5 hQ5 hB5 hW5 HW3 HB3 b0 b1 b2 bf HW1 HW2
      go_wp2_with fail
      have HL1 : Hid (l.length ≤ 60) := Lib.hid (by have := HF.out; unfold fewB at this; exact (of_decide_eq_true this).1)
      have HL2 : Hid (o.length ≤ 60) := Lib.hid (by have := HG.out; unfold fewB at this; exact (of_decide_eq_true this).1)
      go_loopw [13, 15, 16, 17, 54] (fun on _ _ _ i wr => ∃ k : Nat, i = .int .i64 k ∧ k ≤ l.length ∧ on = .int .i64 (onesB (fo f (l.take k) z) : Nat) ∧ Hid (BloF wr w3.heap.size bi H (fo f (l.take k) z)) ∧ Hid (Blo wr P bi H z) ∧ Hid (BloF wr Q bi H z) ∧ Hid (Below w.heap.size w wr)) (fun _ _ _ _ i _ => l.length - (intOf i).toNat)
      case atStart => exact ⟨0, rfl, Nat.zero_le _, by rw [List.take_zero]; show Value.int .i64 0 = .int .i64 (onesB z : Nat); rw [HOZ.out]; rfl, HB5, HP5, HQ5, HW5⟩
      case round =>
        obtain ⟨k, rfl, hk, rfl, HB, HP, HQ, HW⟩ := hrel
        clear HB5 HP5 HQ5 HW5
        by_cases hkl : k = l.length
        · have hkk : decide ((k : Int) < (l.length : Int)) = false := decide_eq_false (by omega)
          have hkn : decide (k < l.length) = false := decide_eq_false (by omega)
          have HBf : Hid (BloF wr w3.heap.size bi H (fo f l z)) := Lib.hid (by have := HB.out; rw [hkl, List.take_length] at this; exact this)
          clear hkl HB
          generalize onesB (fo f (l.take k) z) = ob at *
          go_wp2_with fail
          clear hkk hkn
          obtain ⟨bL, hbL⟩ : ∃ bL, bL = fo f l z := ⟨_, rfl⟩
          rw [← hbL] at HBf
          have HBL := Lib.hid hbL
          have HBLS : Hid (bL.size = S) := Lib.hid (by rw [hbL, fo_size f HFS.out, HZS.out])
          clear hbL
          rename World => W6
          go_loopw [19, 93] (fun _ i wr => ∃ k : Nat, i = .int .i64 k ∧ k ≤ o.length ∧ Hid (BloF wr w3.heap.size bi H bL) ∧ Hid (BloF wr Q bi H (fo f (o.take k) z)) ∧ Hid (Below w.heap.size w wr)) (fun _ i _ => o.length - (intOf i).toNat)
          case atStart => exact ⟨0, rfl, Nat.zero_le _, HBf, HQ, HW⟩
          case round =>
            obtain ⟨k2, rfl, hk2, HB, HQ2, HW2⟩ := hrel
            clear HBf HQ HP HW
            by_cases hkl : k2 = o.length
            · have hkk : decide ((k2 : Int) < (o.length : Int)) = false := decide_eq_false (by omega)
              have hkn : decide (k2 < o.length) = false := decide_eq_false (by omega)
              obtain ⟨cL, hcL⟩ : ∃ cL, cL = fo f o z := ⟨_, rfl⟩
              have HQf : Hid (BloF wr Q bi H cL) := Lib.hid (by have := HQ2.out; rw [hkl, List.take_length, ← hcL] at this; exact this)
              have HCL := Lib.hid hcL
              have HCLS : Hid (cL.size = S) := Lib.hid (by rw [hcL, fo_size f HFS.out, HZS.out])
              clear hkl HQ2 hcL
              obtain ⟨jB, hjB⟩ : ∃ jB, jB = joinB bL cL := ⟨_, rfl⟩
              have hjc : joinB cL bL = jB := by rw [hjB]; exact (joinB_comm bL cL (by rw [HBLS.out, HCLS.out])).symm
              have n1 : ∀ (a b : ByteArray) W, a.size = S → b.size = S → Calls Try.prog 12 #[.agg #[.int .i64 bi, .int .i64 (H : Int), .string a], .agg #[.int .i64 bi, .int .i64 (H : Int), .string b]] W fun e w' => e = .returned (.tuple #[.agg #[.int .i64 bi, .int .i64 (H : Int), .string (joinB a b)], .int .i64 0]) ∧ Below W.heap.size W w' := fun a b W ha hb => by
                have h := bjoin_any bi H bi H a b W (fun _ => by rw [ha, hb]) (by have := HSM.out; omega)
                rw [if_pos ⟨rfl, rfl⟩] at h
                exact h
              obtain ⟨i0, hi, hz0, hz1, hz2⟩ := info_parts Try.infoT
              obtain ⟨L, hL⟩ : ∃ L, L = l ++ o := ⟨_, rfl⟩
              have HLL := Lib.hid hL
              have HL9 : Hid (L.length ≤ 1000) := Lib.hid (by rw [hL, List.length_append]; have := HL1.out; have := HL2.out; omega)
              clear hL
              have HJB := Lib.hid hjB
              have HJC := Lib.hid hjc
              clear hjB hjc
              obtain ⟨⟨b0, b1, b2⟩, bf⟩ := HB.out
              obtain ⟨⟨c0, c1', c2'⟩, cf⟩ := HQf.out
              go_wp2_with (first
                | (go_at_call 12
                   refine Calls.mono (n1 _ _ _ (by first | exact HBLS.out | exact HCLS.out) (by first | exact HBLS.out | exact HCLS.out)) ?_
                   first
                     | (rw [← HJB.out]
                        rintro e wj ⟨rfl, hBj⟩
                        have hal : Below wj.heap.size wj (wj.alloc (.cells #[.int .i64 bi, .int .i64 (H : Int), .string jB] 23)) := (Below.refl _ _).alloc (Nat.le_refl _) _
                        have HBj := Lib.hid ((HB.out.kept hBj).kept hal)
                        have HQj := Lib.hid ((HQf.out.kept hBj).kept hal)
                        have HWj := Lib.hid (bel (bel HW2.out hBj) hal)
                        have HJj := Lib.hid (Blo.new wj bi H jB 23)
                        clear b0 b1 b2 bf c0 c1' c2' cf
                        obtain ⟨⟨b0, b1, b2⟩, bf⟩ := HB.out.kept hBj
                        obtain ⟨⟨c0, c1', c2'⟩, cf⟩ := HQf.out.kept hBj
                        have lb := (HB.out.kept hBj).1.lt
                        have lc := (HQf.out.kept hBj).1.lt
                        clear hBj hal HB HQf HW2)
                     | (rw [HJC.out]
                        rintro e wh ⟨rfl, hBh⟩
                        have hal : Below wh.heap.size wh (wh.alloc (.cells #[.int .i64 bi, .int .i64 (H : Int), .string jB] 23)) := (Below.refl _ _).alloc (Nat.le_refl _) _
                        have HBh := Lib.hid ((HBj.out.kept hBh).kept hal)
                        have HJh := Lib.hid ((HJj.out.kept hBh).kept hal)
                        have HWh := Lib.hid (bel (bel HWj.out hBh) hal)
                        have HHh := Lib.hid (Blo.new wh bi H jB 23)
                        have hown0 : ((wh.alloc (.cells #[.int .i64 bi, .int .i64 (H : Int), .string jB] 23)).alloc (.cells #[] 9)).ownsRow (wh.heap.size + 1) 9 1 (.slice (some ⟨wh.heap.size + 1, 0, none⟩) 0 0) 0 [] := by
                          have h := World.ownsRow_made (base := wh.heap.size + 1) (e := 9) (size := 1) (wh.alloc (.cells #[.int .i64 bi, .int .i64 (H : Int), .string jB] 23)) #[] 0 (by rw [World.size_alloc]; omega) (by unfold maxLen; omega) rfl
                          rw [World.size_alloc] at h
                          exact h
                        have HOw := Lib.hid hown0
                        have HWz : Hid (w.heap.size ≤ wh.heap.size + 1) := Lib.hid (by have := HWh.out.size; rw [World.size_alloc] at this; exact this)
                        have HLt : Hid (w3.heap.size < wh.heap.size + 1 ∧ wj.heap.size < wh.heap.size + 1) := Lib.hid ⟨by have := HBh.out.1.lt; rw [World.size_alloc] at this; exact this, by have := HJh.out.lt; rw [World.size_alloc] at this; exact this⟩
                        have hrl : Row ((wh.alloc (.cells #[.int .i64 bi, .int .i64 (H : Int), .string jB] 23)).alloc (.cells #[] 9)) w.heap.size A1 (l.map .string) := HR1.out.below (HWh.out.alloc HWh.out.size _)
                        have HRl := Lib.hid hrl
                        clear b0 b1 b2 bf c0 c1' c2' cf lb lc hBh hal HBj HQj HWj HJj hown0 hrl))
                | (at_builtin
                   refine wpList_append_row _ rfl (.tmp 113) (.tmp 114) 24 rfl (wh.heap.size + 1) 9 i0 _ 16 Try.underlying24 hi hz0 hz1 hz2 rfl (.slice (some ⟨wh.heap.size + 1, 0, none⟩) 0 0) 0 [] rfl HOw.out w.heap.size A1 l.length c1 (l.map .string) rfl (by simp) HRl.out (strs_oneCell _) (by have := HL1.out; unfold maxLen; omega) (by have := HL1.out; omega) (by simp only [World.size_alloc]; omega) ?_
                   intro v4 w4 h2 h3 h4
                   have hb4 : Below (wh.alloc (.cells #[.int .i64 bi, .int .i64 (H : Int), .string jB] 23)).heap.size (wh.alloc (.cells #[.int .i64 bi, .int .i64 (H : Int), .string jB] 23)) w4 := (((Below.refl _ _).alloc (Nat.le_refl _) _)).grown h3 (by simp only [World.size_alloc]; omega) (fun q e => by rw [World.size_alloc]; exact (HOw.out.lt q e).1)
                   have HBq := Lib.hid (HBh.out.kept hb4)
                   have HJq := Lib.hid (HJh.out.kept hb4)
                   have HHq := Lib.hid (HHh.out.kept hb4)
                   have HWq := Lib.hid (bel HWh.out hb4)
                   have HZq : Hid (wh.heap.size + 1 ≤ w4.heap.size) := Lib.hid (by have := hb4.size; simp only [World.size_alloc] at this; exact this)
                   have HO4 : Hid (w4.ownsRow (wh.heap.size + 1) 9 1 v4 l.length (l.map .string)) := Lib.hid (by have := h2; rw [Nat.zero_add, List.nil_append] at this; exact this)
                   have HRo : Hid (Row w4 w.heap.size A2 (o.map .string)) := Lib.hid (HR2.out.below HWq.out)
                   clear h2 h3 h4 hb4 HBh HJh HHh HWh HRl HOw)
                | (at_builtin
                   refine wpList_append_row _ rfl (.tmp 115) (.tmp 116) 24 rfl (wh.heap.size + 1) 9 i0 _ 16 Try.underlying24 hi hz0 hz1 hz2 rfl v4 l.length (l.map .string) rfl HO4.out w.heap.size A2 o.length c2 (o.map .string) rfl (by simp) HRo.out (strs_oneCell _) (by have := HL1.out; have := HL2.out; unfold maxLen; omega) (by have := HL1.out; have := HL2.out; omega) HZq.out ?_
                   intro v5 w5 h2 h3 h4
                   have hb5 : Below (wh.heap.size + 1) w4 w5 := (Below.refl _ _).grown h3 HZq.out (fun q e => (HO4.out.lt q e).1)
                   have lH := HHq.out.lt
                   have hbk : ∀ {B : Nat} {d : ByteArray}, B < wh.heap.size + 1 → Blo w4 B bi H d → Blo w5 B bi H d := fun hB hd => ⟨(hb5.cell (p := ⟨_, 0, none⟩) hB).trans hd.1, (hb5.cell (p := ⟨_, 1, none⟩) hB).trans hd.2.1, (hb5.cell (p := ⟨_, 2, none⟩) hB).trans hd.2.2⟩
                   have HB5 := Lib.hid (hbk HLt.out.1 HBq.out.1)
                   have HJ5 := Lib.hid (hbk HLt.out.2 HJq.out)
                   have HH5 := Lib.hid (hbk (Nat.lt_succ_self _) HHq.out)
                   have HW5 := Lib.hid (HWq.out.trans (hb5.mono HWz.out))
                   have hs5 : Strs w5 w5.heap.size v5 L := strs_of_own (n := l.length + o.length) (base := wh.heap.size + 1) (e := 9) (by rw [HLL.out, List.map_append]; exact h2)
                   obtain ⟨A5, c5, rfl, -, -, hr5⟩ := hs5
                   have HR5 := Lib.hid hr5
                   clear h2 h3 h4 hb5 hbk lH HBq HJq HHq HWq HRo HO4 hr5))
              have hnl := none_law E H S f g z l o HSS.out HZS.out HFF.out HGG.out
              rw [← HBL.out, ← HCL.out, ← HJB.out, ← HLL.out] at hnl
              have HNL := Lib.hid hnl
              clear hnl n1 HLt HZq HWz
              go_loopw [25, 119] (fun _ i wr => ∃ k : Nat, i = .int .i64 k ∧ k ≤ L.length ∧ Hid (Below w5.heap.size w5 wr)) (fun _ i _ => L.length - (intOf i).toNat)
              case atStart => exact ⟨0, rfl, Nat.zero_le _, Lib.hid (Below.refl _ _)⟩
              case round =>
                obtain ⟨k3, rfl, hk3, HV⟩ := hrel
                have hnL9 := HL9.out
                obtain ⟨j0, j1, j2⟩ := HJ5.out.kept HV.out
                by_cases hkl : k3 = L.length
                · have hkk : decide ((k3 : Int) < (L.length : Int)) = false := decide_eq_false (by omega)
                  have hkn : decide (k3 < L.length) = false := decide_eq_false (by omega)
                  obtain ⟨b0, b1, b2⟩ := HB5.out.kept HV.out
                  have HWr : Hid (Below w.heap.size w wr) := Lib.hid (bel HW5.out HV.out)
                  have HJr := Lib.hid (HJ5.out.kept HV.out)
                  have HHr := Lib.hid (HH5.out.kept HV.out)
                  clear hkl j0 j1 j2 hnL9
                  go_wp2_with (first
                    | (go_at_call 18
                       refine Calls.mono (bsieve_any (fun k => g k bL) bi H bL l _ _ (by have := HL1.out; omega) (HST.out _ HWr.out) (fun key W => HA.out.2 key bL W HBLS.out)) ?_
                       rintro e ws ⟨vo, vi, rfl, hvo, hvi, hBs⟩
                       have hpl := parted_len (fun k => g k bL) l l.length
                       rw [List.take_length, inK_congr (fun k => g k bL) keyB l HNL.out.2] at hpl
                       obtain ⟨Ao, co, rfl, -, -, -⟩ := strs_of_own hvo
                       have hsi := strs_of_own hvi
                       rw [inK_congr (fun k => g k bL) keyB l HNL.out.2] at hsi
                       obtain ⟨Ai, ci, rfl, h1, h2, h3⟩ := hsi
                       have HSI : Hid (Strs ws ws.heap.size (.slice Ai (inK keyB l l.length).length ci) (inK keyB l l.length)) := Lib.hid ⟨Ai, ci, rfl, h1, h2, h3⟩
                       have HJs := Lib.hid (HJr.out.kept hBs)
                       have HHs := Lib.hid (HHr.out.kept hBs)
                       have HWs := Lib.hid (bel HWr.out hBs)
                       obtain ⟨oL, hoL⟩ : ∃ oL, oL = (outK (fun k => g k bL) l l.length).length := ⟨_, rfl⟩
                       obtain ⟨iL, hiL⟩ : ∃ iL, iL = (inK keyB l l.length).length := ⟨_, rfl⟩
                       rw [← hoL, ← hiL] at hpl
                       rw [← hoL]
                       rw [← hiL] at HSI ⊢
                       have hl60 := HL1.out
                       have hw : IntKind.i64.wrap ((oL : Int) + (iL : Int)) = (l.length : Int) := by rw [IntWalk.i64_in _ (by omega)]; omega
                       have hsm : ((oL : Int) + (iL : Int) == (l.length : Int)) = true := beq_iff_eq.2 (by omega)
                       have ho9 : oL ≤ 1000 := by omega
                       have hi9 : iL ≤ 1000 := by omega
                       clear hvo hvi hBs h1 h2 h3 HJr HHr HWr b0 b1 b2 hpl hl60 hoL hiL
                       obtain ⟨j0, j1, j2⟩ := HJs.out
                       obtain ⟨h0, h1, h2⟩ := HHs.out)
                    | (go_at_call 23
                       refine Calls.mono (keys_any l _ _ (HST.out _ HWs.out) (by have := HL1.out; omega)) ?_
                       rintro e wk ⟨vk, rfl, hvk, hBk⟩
                       have HSK := Lib.hid (strs_of_own hvk)
                       have HSI2 := Lib.hid (HSI.out.on hBk)
                       have HWk := Lib.hid (bel HWs.out hBk)
                       clear hvk hBk j0 j1 j2 h0 h1 h2)
                    | (go_at_call 22
                       refine Calls.mono (same_any (inK keyB l l.length) _ _ _ HSI2.out HSK.out) ?_
                       rintro e wm ⟨rfl, hBm⟩
                       have HWm := Lib.hid (bel HWk.out hBm)
                       clear hBm)
                    | (go_at_call 7
                       refine Calls.mono (awake_any _) ?_
                       rintro e wt ⟨rfl, hBt⟩))
                  go_ret
                  exact ⟨rfl, bel HWm.out hBt⟩
                · have hlt : k3 < L.length := by omega
                  have hlti : (k3 : Int) < (L.length : Int) := by omega
                  have hk0 : (0 : Int) ≤ (k3 : Int) := Int.natCast_nonneg _
                  have hkk : decide ((k3 : Int) < (L.length : Int)) = true := decide_eq_true (by omega)
                  have hkn : decide (k3 < L.length) = true := decide_eq_true (by omega)
                  obtain ⟨bb1, o1, rfl, hb1, hcl1⟩ := HR5.out.at_ (by simp; omega)
                  obtain ⟨x, hx⟩ : ∃ x, L[k3]? = some x := ⟨L[k3]'(by omega), List.getElem?_eq_getElem (by omega)⟩
                  have q1 := (HV.out.cell (p := ⟨bb1, o1 + k3, none⟩) hb1).trans (hcl1 k3 (.string x) (by rw [List.getElem?_map, hx]; rfl))
                  have hgx := HNL.out.1 x (List.mem_of_getElem? hx)
                  have HJBS : Hid (jB.size = S) := Lib.hid (by rw [HJB.out]; unfold joinB; rw [joinK_size, HBLS.out])
                  by_cases h32 : x.size = 32
                  · have d5 : ((x.size : Int) == 32) = true := beq_iff_eq.2 (by omega)
                    rw [decide_eq_true h32] at hgx
                    have HGX := Lib.hid hgx
                    clear hcl1 hx hkl hb1 hgx h32
                    go_wp2_with (go_at_call 16
                                 refine Calls.mono (HA.out.2 x jB _ HJBS.out) ?_
                                 rw [HGX.out]
                                 rintro e wd ⟨rfl, hBd⟩
                                 have HVd := Lib.hid (bel HV.out hBd)
                                 clear hBd)
                    go_roundw
                    case rel => exact ⟨k3 + 1, by go_num, by omega, HVd⟩
                    case measure => simp [intOf]; omega
                  · have d5 : ((x.size : Int) == 32) = false := beq_eq_false_iff_ne.2 (by omega)
                    rw [decide_eq_false h32] at hgx
                    have HGX := Lib.hid hgx
                    clear hcl1 hx hkl hb1 hgx h32
                    go_wp2_with (go_at_call 16
                                 refine Calls.mono (HA.out.2 x jB _ HJBS.out) ?_
                                 rw [HGX.out]
                                 rintro e wd ⟨rfl, hBd⟩
                                 have HVd := Lib.hid (bel HV.out hBd)
                                 clear hBd)
                    go_roundw
                    case rel => exact ⟨k3 + 1, by go_num, by omega, HVd⟩
                    case measure => simp [intOf]; omega
            · have hlt : k2 < o.length := by omega
              have hlti : (k2 : Int) < (o.length : Int) := by omega
              have hk0 : (0 : Int) ≤ (k2 : Int) := Int.natCast_nonneg _
              have hkk : decide ((k2 : Int) < (o.length : Int)) = true := decide_eq_true (by omega)
              have hkn : decide (k2 < o.length) = true := decide_eq_true (by omega)
              have hln := HL2.out
              obtain ⟨bb1, o1, rfl, hb1, hcl1⟩ := HR2.out.at_ (by simp; omega)
              obtain ⟨x, hx⟩ : ∃ x, o[k2]? = some x := ⟨o[k2], List.getElem?_eq_getElem (by omega)⟩
              have q1 := (HW2.out.cell (p := ⟨bb1, o1 + k2, none⟩) hb1).trans (hcl1 k2 (.string x) (by rw [List.getElem?_map, hx]; rfl))
              obtain ⟨ck, hck⟩ : ∃ ck, ck = fo f (o.take k2) z := ⟨_, rfl⟩
              obtain ⟨dk, hdk⟩ : ∃ dk, dk = f x ck := ⟨_, rfl⟩
              have hnx : fo f (o.take (k2 + 1)) z = dk := by rw [fo_succ f o z k2 x hx, ← hck, hdk]
              have hcs : ck.size = S := by rw [hck, fo_size f HFS.out, HZS.out]
              rw [← hck] at HQ2
              have HDK := Lib.hid hdk
              have HNX := Lib.hid hnx
              have HCS := Lib.hid hcs
              clear hcl1 hx hkl hb1 hdk hnx hcs hck
              obtain ⟨⟨c0, c1', c2'⟩, cf⟩ := HQ2.out
              go_wp2_with (go_at_call 14
                           refine Calls.mono (HA.out.1 x ck _ HCS.out) ?_
                           rw [← HDK.out]
                           rintro e wb ⟨rfl, hBb⟩
                           have HBb := Lib.hid (HB.out.kept hBb)
                           have HQb := Lib.hid (HQ2.out.kept hBb)
                           have HWb := Lib.hid (bel HW2.out hBb)
                           clear c0 c1' c2' cf
                           obtain ⟨⟨c0, c1', c2'⟩, cf⟩ := HQb.out
                           clear hBb)
              go_roundw
              case rel => exact ⟨k2 + 1, by go_num, by omega, Lib.hid (((HBb.out.set hbQ).set hbQ).set hbQ), Lib.hid (by rw [HNX.out]; exact HQb.out.store), Lib.hid (((HWb.out.setCell (p := ⟨Q, 0, none⟩) HQw.out _).setCell (p := ⟨Q, 1, none⟩) HQw.out _).setCell (p := ⟨Q, 2, none⟩) HQw.out _)⟩
              case measure => simp [intOf]; omega
        · have hlt : k < l.length := by omega
          have hlti : (k : Int) < (l.length : Int) := by omega
          have hk0 : (0 : Int) ≤ (k : Int) := Int.natCast_nonneg _
          have hkk : decide ((k : Int) < (l.length : Int)) = true := decide_eq_true (by omega)
          have hkn : decide (k < l.length) = true := decide_eq_true (by omega)
          have hln := HL1.out
          obtain ⟨bb1, o1, rfl, hb1, hcl1⟩ := HR1.out.at_ (by simp; omega)
          obtain ⟨x, hx⟩ : ∃ x, l[k]? = some x := ⟨l[k], List.getElem?_eq_getElem (by omega)⟩
          have q1 := (HW.out.cell (p := ⟨bb1, o1 + k, none⟩) hb1).trans (hcl1 k (.string x) (by rw [List.getElem?_map, hx]; rfl))
          obtain ⟨bk, hbk⟩ : ∃ bk, bk = fo f (l.take k) z := ⟨_, rfl⟩
          obtain ⟨dk, hdk⟩ : ∃ dk, dk = f x bk := ⟨_, rfl⟩
          have hnx : fo f (l.take (k + 1)) z = dk := by rw [fo_succ f l z k x hx, ← hbk, hdk]
          have hbs : bk.size = S := by rw [hbk, fo_size f HFS.out, HZS.out]
          have hds : dk.size = S := by rw [hdk, HFS.out, hbs]
          have hon := HON.out x bk hbs
          rw [← hdk] at hon
          have hod := onesB_le dk
          have hsm := HSM.out
          rw [← hbk] at HB ⊢
          obtain ⟨ob, hob⟩ : ∃ ob, ob = onesB bk := ⟨_, rfl⟩
          obtain ⟨od, hode⟩ : ∃ od, od = onesB dk := ⟨_, rfl⟩
          rw [← hob, ← hode] at hon
          rw [← hob]
          rw [← hode] at hod
          obtain ⟨M, hM⟩ : ∃ M, M = od - ob := ⟨_, rfl⟩
          have hw : IntKind.i64.wrap ((od : Int) - (ob : Int)) = (M : Int) := by rw [IntWalk.i64_in _ (by omega)]; omega
          have hMH : (M : Int) ≤ (m : Int) % 8 + 1 := by have := HMR.out; omega
          have d1 : decide ((M : Int) < 0) = false := decide_eq_false (by omega)
          have d2 : decide ((m : Int) % 8 + 1 < (M : Int)) = false := decide_eq_false (by omega)
          have hM0 : x.size ≠ 32 → M = 0 := fun h => by have := hon.2.2 h; omega
          have HDK := Lib.hid hdk
          have HNX := Lib.hid hnx
          have HBS := Lib.hid hbs
          have HDS := Lib.hid hds
          have HOD := Lib.hid hode
          have HM0 := Lib.hid hM0
          have hgz := HGZ.out x
          have HGX := Lib.hid hgz
          have HS1 : Hid (bk.size ≤ 1000000) := Lib.hid (by omega)
          have HS2 : Hid (dk.size ≤ 1000000) := Lib.hid (by omega)
          clear hcl1 hx hkl HR1 hb1 hdk hnx hbs hds hode hM0 hgz hon hod hsm hob hM hbk hMH
          by_cases hMz : M = 0
          · have d3 : decide ((0 : Int) < (M : Int)) = false := decide_eq_false (by omega)
            have d3n : decide (0 < M) = false := decide_eq_false (by omega)
            clear hMz HM0
            obtain ⟨p0, p1, p2⟩ := HP.out
            obtain ⟨⟨b0, b1, b2⟩, bf⟩ := HB.out
            go_wp2_with (first
              | (go_at_call 16
                 refine Calls.mono (HA.out.2 x z _ HZS.out) ?_
                 rw [HGX.out]
                 rintro e wa ⟨rfl, hBa⟩
                 have HPa := Lib.hid (HP.out.kept hBa)
                 have HBa := Lib.hid (HB.out.kept hBa)
                 have HQa := Lib.hid (HQ.out.kept hBa)
                 have HWa := Lib.hid (bel HW.out hBa)
                 clear hBa p0 p1 p2 b0 b1 b2 bf HP HB HQ HW q1
                 obtain ⟨⟨b0, b1, b2⟩, bf⟩ := HBa.out)
              | (go_at_call 14
                 refine Calls.mono (HA.out.1 x bk _ HBS.out) ?_
                 rw [← HDK.out]
                 rintro e wb ⟨rfl, hBb⟩
                 have hal : Below wb.heap.size wb (wb.alloc (.cells #[.int .i64 bi, .int .i64 (H : Int), .string dk] 23)) := (Below.refl _ _).alloc (Nat.le_refl _) _
                 have HPb := Lib.hid ((HPa.out.kept hBb).kept hal)
                 have HBb := Lib.hid ((HBa.out.kept hBb).kept hal)
                 have HQb := Lib.hid ((HQa.out.kept hBb).kept hal)
                 have HWb := Lib.hid (bel (bel HWa.out hBb) hal)
                 have HDb := Lib.hid (Blo.new wb bi H dk 23)
                 have HNb : Hid (w3.heap.size ≠ wb.heap.size) := Lib.hid (by have := ((HBa.out.kept hBb).1).lt; omega)
                 clear hBb hal b0 b1 b2 bf HPa HBa HQa HWa)
              | (go_at_call 20
                 refine Calls.mono (bones_any bi H dk _ HS2.out) ?_
                 rw [← HOD.out]
                 rintro e wc ⟨rfl, hBc⟩
                 have HPc := Lib.hid (HPb.out.kept hBc)
                 have HBc := Lib.hid (HBb.out.kept hBc)
                 have HQc := Lib.hid (HQb.out.kept hBc)
                 have HWc := Lib.hid (bel HWb.out hBc)
                 have HDc := Lib.hid (HDb.out.kept hBc)
                 clear hBc HPb HBb HQb HWb HDb))
            have hS0 : KeepS w wc.drew wb.heap.size w3.heap.size P Q bi H dk z := keepS_at (b := bk) HDc.out HBc.out.drew HPc.out HQc.out.drew HWc.out.drew
            clear d1 d2 hw hlti hk0 hkk hkn d3 d3n
            go_region_held3 (fun w' => w'.cell? ⟨wb.heap.size, 0, none⟩ = some (.int .i64 bi) ∧ w'.cell? ⟨wb.heap.size, 1, none⟩ = some (.int .i64 (H : Int)) ∧ w'.cell? ⟨wb.heap.size, 2, none⟩ = some (.string dk) ∧ (∀ o, w'.frozen? ⟨w3.heap.size, o, none⟩ = false) ∧ Hid (Blo w' P bi H z ∧ BloF w' Q bi H z ∧ Below w.heap.size w w'))
              (first
                | exact hS0
                | exact keepS_at HDd.out HBd.out HPd.out HQd.out HWd.out
                | exact keepS_store HDd.out HBd.out HPd.out HQd.out HWd.out HNb.out.symm hbP.symm hbQ.symm HW3w.out)
              (first
                | (go_at_call 20; refine Calls.mono (bones_any bi H dk _ HS2.out) ?_; rw [← HOD.out]; rintro e wd ⟨rfl, hBd⟩
                   have HPd := Lib.hid (HPc.out.kept hBd)
                   have HBd := Lib.hid (HBc.out.drew.kept hBd)
                   have HQd := Lib.hid (HQc.out.drew.kept hBd)
                   have HDd := Lib.hid (HDc.out.kept hBd)
                   have HWd := Lib.hid (bel HWc.out.drew hBd)
                   obtain ⟨⟨bd0, bd1, bd2⟩, bdf⟩ := HBd.out
                   clear hBd))
            all_goals
              go_wp2
              go_roundw
              case rel => exact ⟨k + 1, by go_num, by omega, by rw [HNX.out, ← HOD.out], Lib.hid (by rw [HNX.out]; exact HBd.out.store), Lib.hid (keepS_store HDd.out HBd.out HPd.out HQd.out HWd.out HNb.out.symm hbP.symm hbQ.symm HW3w.out).2.2.2.2.out.1, Lib.hid (keepS_store HDd.out HBd.out HPd.out HQd.out HWd.out HNb.out.symm hbP.symm hbQ.symm HW3w.out).2.2.2.2.out.2.1, Lib.hid (keepS_store HDd.out HBd.out HPd.out HQd.out HWd.out HNb.out.symm hbP.symm hbQ.symm HW3w.out).2.2.2.2.out.2.2⟩
              case measure => simp [intOf]; omega
          · have d3 : decide ((0 : Int) < (M : Int)) = true := decide_eq_true (by omega)
            have hx32 : x.size = 32 := by
              rcases Nat.decEq x.size 32 with h | h
              · exact absurd (HM0.out h) hMz
              · exact h
            have d5 : ((x.size : Int) == 32) = true := beq_iff_eq.2 (by omega)
            have d6 : ((x.size : Int) != 32) = false := by rw [bne, d5]; rfl
            have d3n : decide (0 < M) = true := decide_eq_true (by omega)
            clear hMz HM0 hx32 d5
            obtain ⟨p0, p1, p2⟩ := HP.out
            obtain ⟨⟨b0, b1, b2⟩, bf⟩ := HB.out
            go_wp2_with (first
              | (go_at_call 16
                 refine Calls.mono (HA.out.2 x z _ HZS.out) ?_
                 rw [HGX.out]
                 rintro e wa ⟨rfl, hBa⟩
                 have HPa := Lib.hid (HP.out.kept hBa)
                 have HBa := Lib.hid (HB.out.kept hBa)
                 have HQa := Lib.hid (HQ.out.kept hBa)
                 have HWa := Lib.hid (bel HW.out hBa)
                 clear hBa p0 p1 p2 b0 b1 b2 bf HP HB HQ HW q1
                 obtain ⟨⟨b0, b1, b2⟩, bf⟩ := HBa.out)
              | (go_at_call 14
                 refine Calls.mono (HA.out.1 x bk _ HBS.out) ?_
                 rw [← HDK.out]
                 rintro e wb ⟨rfl, hBb⟩
                 have hal : Below wb.heap.size wb (wb.alloc (.cells #[.int .i64 bi, .int .i64 (H : Int), .string dk] 23)) := (Below.refl _ _).alloc (Nat.le_refl _) _
                 have HPb := Lib.hid ((HPa.out.kept hBb).kept hal)
                 have HBb := Lib.hid ((HBa.out.kept hBb).kept hal)
                 have HQb := Lib.hid ((HQa.out.kept hBb).kept hal)
                 have HWb := Lib.hid (bel (bel HWa.out hBb) hal)
                 have HDb := Lib.hid (Blo.new wb bi H dk 23)
                 have HNb : Hid (w3.heap.size ≠ wb.heap.size) := Lib.hid (by have := ((HBa.out.kept hBb).1).lt; omega)
                 clear hBb hal b0 b1 b2 bf HPa HBa HQa HWa)
              | (go_at_call 20
                 refine Calls.mono (bones_any bi H dk _ HS2.out) ?_
                 rw [← HOD.out]
                 rintro e wc ⟨rfl, hBc⟩
                 have HPc := Lib.hid (HPb.out.kept hBc)
                 have HBc := Lib.hid (HBb.out.kept hBc)
                 have HQc := Lib.hid (HQb.out.kept hBc)
                 have HWc := Lib.hid (bel HWb.out hBc)
                 have HDc := Lib.hid (HDb.out.kept hBc)
                 clear hBc HPb HBb HQb HWb HDb))
            have hS0 : KeepS w wc.drew wb.heap.size w3.heap.size P Q bi H dk z := keepS_at (b := bk) HDc.out HBc.out.drew HPc.out HQc.out.drew HWc.out.drew
            clear d1 d2 hw hlti hk0 hkk hkn d3 d3n
            go_region_held3 (fun w' => w'.cell? ⟨wb.heap.size, 0, none⟩ = some (.int .i64 bi) ∧ w'.cell? ⟨wb.heap.size, 1, none⟩ = some (.int .i64 (H : Int)) ∧ w'.cell? ⟨wb.heap.size, 2, none⟩ = some (.string dk) ∧ (∀ o, w'.frozen? ⟨w3.heap.size, o, none⟩ = false) ∧ Hid (Blo w' P bi H z ∧ BloF w' Q bi H z ∧ Below w.heap.size w w'))
              (first
                | exact hS0
                | exact keepS_at HDd.out HBd.out HPd.out HQd.out HWd.out
                | exact keepS_store HDd.out HBd.out HPd.out HQd.out HWd.out HNb.out.symm hbP.symm hbQ.symm HW3w.out)
              (first
                | (go_at_call 20; refine Calls.mono (bones_any bi H dk _ HS2.out) ?_; rw [← HOD.out]; rintro e wd ⟨rfl, hBd⟩
                   have HPd := Lib.hid (HPc.out.kept hBd)
                   have HBd := Lib.hid (HBc.out.drew.kept hBd)
                   have HQd := Lib.hid (HQc.out.drew.kept hBd)
                   have HDd := Lib.hid (HDc.out.kept hBd)
                   have HWd := Lib.hid (bel HWc.out.drew hBd)
                   obtain ⟨⟨bd0, bd1, bd2⟩, bdf⟩ := HBd.out
                   clear hBd))
            all_goals
              go_wp2
              go_roundw
              case rel => exact ⟨k + 1, by go_num, by omega, by rw [HNX.out, ← HOD.out], Lib.hid (by rw [HNX.out]; exact HBd.out.store), Lib.hid (keepS_store HDd.out HBd.out HPd.out HQd.out HWd.out HNb.out.symm hbP.symm hbQ.symm HW3w.out).2.2.2.2.out.1, Lib.hid (keepS_store HDd.out HBd.out HPd.out HQd.out HWd.out HNb.out.symm hbP.symm hbQ.symm HW3w.out).2.2.2.2.out.2.1, Lib.hid (keepS_store HDd.out HBd.out HPd.out HQd.out HWd.out HNb.out.symm hbP.symm hbQ.symm HW3w.out).2.2.2.2.out.2.2⟩
              case measure => simp [intOf]; omega
  · by_cases hfl : fewB l = true
    · have hgl : fewB o = false := by
        cases h : fewB o with
        | false => rfl
        | true => exact absurd ⟨hfl, h⟩ hbig
      have HF := Lib.hid hfl
      have HG := Lib.hid hgl
      clear hfl hgl hbig
      go_enter Try.func4, Try.ntmps4
      go_wp2_with (first
        | (go_at_call 6
           first
             | (refine Calls.mono (few_any l _ _ (HST.out _ (by go_grown))) ?_
                rw [HF.out]
                rintro e w1 ⟨rfl, hB1⟩
                have HW1 := Lib.hid hB1
                clear hB1)
             | (refine Calls.mono (few_any o _ _ (HSO.out _ HW1.out)) ?_
                rw [HG.out]
                rintro e w2 ⟨rfl, hB2⟩
                have HW2 := Lib.hid (bel HW1.out hB2)
                clear hB2))
        | (go_at_call 7
           refine Calls.mono (awake_any _) ?_
           rintro e wt ⟨rfl, hBt⟩))
      go_ret
      exact ⟨rfl, bel HW2.out hBt⟩
    · have hfl' : fewB l = false := by
        cases h : fewB l with
        | false => rfl
        | true => exact absurd h hfl
      have HF := Lib.hid hfl'
      clear hfl hfl' hbig
      go_enter Try.func4, Try.ntmps4
      go_wp2_with (first
        | (go_at_call 6
           first
             | (refine Calls.mono (few_any l _ _ (HST.out _ (by go_grown))) ?_
                rw [HF.out]
                rintro e w1 ⟨rfl, hB1⟩
                have HW1 := Lib.hid hB1
                clear hB1))
        | (go_at_call 7
           refine Calls.mono (awake_any _) ?_
           rintro e wt ⟨rfl, hBt⟩))
      go_ret
      exact ⟨rfl, bel HW1.out hBt⟩
end Go.Proofs.Ytingloamfpibaaa
