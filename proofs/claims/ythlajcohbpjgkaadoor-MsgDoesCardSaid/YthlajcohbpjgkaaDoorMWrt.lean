/-
  Messages as bytes: kind by kind; builders and joined texts.
-/
import Derived.Test.YthlajcohbpjgkaaDoorMRdL
import Derived.Test.YthlajcohbpjgkaaDoorShelf
import Derived.Test.YthlajcohbpjgkaaDoorVSh
import Derived.Shelf.Strings.BuilderK
import Derived.Test.YthlajcohbpjgkaaDoorMFit
namespace Go.Proofs.YthlajcohbpjgkaaDoor
open Go.RowKit Go.Shelf Go.Proofs.Mem
set_option linter.unusedVariables false

def M1 (n r : ByteArray) : MsgL := ⟨1, n, r, [], [], 0⟩
def M2 (l : List ByteArray) : MsgL := ⟨2, ⟨#[]⟩, ⟨#[]⟩, l, [], 0⟩
def M3 (l : List ObjL) : MsgL := ⟨3, ⟨#[]⟩, ⟨#[]⟩, [], l, 0⟩
def M4 (e : Nat) : MsgL := ⟨4, ⟨#[]⟩, ⟨#[]⟩, [], [], (e : Int)⟩
theorem fit_cases (m : MsgL) (h : fitL m = true) :
    (∃ n r, m = M1 n r ∧ nameB n = true ∧ r.size = 32) ∨ (∃ l, m = M2 l ∧ (∀ k ∈ l, k.size = 32) ∧ 1 ≤ l.length ∧ l.length ≤ 4) ∨
    (∃ l, m = M3 l ∧ (∀ x ∈ l, x.1.size = 32 ∧ x.2.size ≤ 40000) ∧ 1 ≤ l.length ∧ l.length ≤ 4) ∨ (∃ e : Nat, m = M4 e ∧ e ≤ 19) := by
  unfold fitL at h
  rw [Bool.and_eq_true, decide_eq_true_iff] at h
  obtain ⟨hb, h⟩ := h
  unfold bareL at hb
  by_cases h1 : m.kind = 1
  · rw [if_pos h1] at h hb
    rw [Bool.and_eq_true, decide_eq_true_iff] at h
    exact .inl ⟨m.name, m.root, by rw [hb]; unfold M1; rw [h1], h.1, h.2⟩
  · rw [if_neg h1] at h hb
    by_cases h2 : m.kind = 2
    · rw [if_pos h2] at h hb
      rw [Bool.and_eq_true, decide_eq_true_iff, List.all_eq_true] at h
      exact .inr (.inl ⟨m.keys, by rw [hb]; unfold M2; rw [h2], fun k hk => of_decide_eq_true (h.1 k hk), h.2.1, h.2.2⟩)
    · rw [if_neg h2] at h hb
      by_cases h3 : m.kind = 3
      · rw [if_pos h3] at h hb
        rw [Bool.and_eq_true, decide_eq_true_iff, List.all_eq_true] at h
        exact .inr (.inr (.inl ⟨m.objs, by rw [hb]; unfold M3; rw [h3], fun k hk => of_decide_eq_true (h.1 k hk), h.2.1, h.2.2⟩))
      · rw [if_neg h3] at h hb
        rw [decide_eq_true_iff] at h
        obtain ⟨h4, h5, h6⟩ := h
        refine .inr (.inr (.inr ⟨m.err.toNat, ?_, by omega⟩))
        have he : m.err = ((m.err.toNat : Nat) : Int) := by omega
        unfold M4
        rw [← he, ← h4]
        exact hb
theorem write_1 (n r : ByteArray) (h : fitL (M1 n r) = true) : writeL (M1 n r) = ⟨#[1]⟩ ++ (putT n ++ r) := by
  unfold writeL; rw [if_neg (by rw [h]; decide)]; rfl
theorem write_2 (l : List ByteArray) (h : fitL (M2 l) = true) : writeL (M2 l) = ⟨#[2]⟩ ++ (putB l.length ++ catB l) := by
  unfold writeL; rw [if_neg (by rw [h]; decide)]
  show _ ++ (putB (l.length + 0) ++ catB l ++ catB []) = _
  rw [show catB [] = ⟨#[]⟩ from rfl, app_nil]; rfl
theorem write_3 (l : List ObjL) (h : fitL (M3 l) = true) : writeL (M3 l) = ⟨#[3]⟩ ++ (putB l.length ++ catB (l.map fun x => x.1 ++ putT x.2)) := by
  unfold writeL; rw [if_neg (by rw [h]; decide)]
  show _ ++ (putB (0 + l.length) ++ catB [] ++ catB _) = _
  rw [show catB [] = ⟨#[]⟩ from rfl, app_nil, Nat.zero_add]; rfl
theorem write_4 (e : Nat) (h : fitL (M4 e) = true) : writeL (M4 e) = ⟨#[4]⟩ ++ putB e := by
  unfold writeL; rw [if_neg (by rw [h]; decide)]; rfl
theorem catB_snoc (l : List ByteArray) (x : ByteArray) : catB (l ++ [x]) = catB l ++ x := by
  induction l with
  | nil => rw [List.nil_append, catB_cons, show catB [] = ⟨#[]⟩ from rfl, app_nil, nil_app]
  | cons y l ih => rw [List.cons_append, catB_cons, ih, catB_cons, app_assoc]
theorem catB_size (l : List ByteArray) (B : Nat) (h : ∀ x ∈ l, x.size ≤ B) : (catB l).size ≤ B * l.length := by
  induction l with
  | nil => exact Nat.zero_le _
  | cons x l ih =>
    rw [catB_cons, ByteArray.size_append, List.length_cons, Nat.mul_succ]
    have h1 := ih (fun y hy => h y (List.mem_cons_of_mem _ hy))
    have h2 := h x (List.mem_cons_self ..)
    omega
/-- The keys' bytes, so far. -/
def wr2 (l : List ByteArray) (k : Nat) : ByteArray := ⟨#[2]⟩ ++ putB l.length ++ catB (l.take k)
def itmB (x : ObjL) : ByteArray := x.1 ++ putT x.2
def wr3 (l : List ObjL) (k : Nat) : ByteArray := ⟨#[3]⟩ ++ putB l.length ++ catB ((l.take k).map itmB)
theorem wr2_succ (l : List ByteArray) (k : Nat) (x : ByteArray) (h : l[k]? = some x) : wr2 l (k + 1) = wr2 l k ++ x := by
  unfold wr2
  rw [List.take_add_one, h]
  show _ ++ catB (l.take k ++ [x]) = _
  rw [catB_snoc]
  simp only [app_assoc]
theorem wr3_succ (l : List ObjL) (k : Nat) (x : ObjL) (h : l[k]? = some x) : wr3 l (k + 1) = wr3 l k ++ x.1 ++ putT x.2 := by
  unfold wr3
  rw [List.take_add_one, h, List.map_append]
  show _ ++ catB ((l.take k).map itmB ++ [itmB x]) = _
  rw [catB_snoc]
  unfold itmB
  simp only [app_assoc]
theorem wr2_zero (l : List ByteArray) : wr2 l 0 = ⟨#[2]⟩ ++ putB l.length := by unfold wr2; rw [List.take_zero, show catB [] = ⟨#[]⟩ from rfl, app_nil]
theorem wr3_zero (l : List ObjL) : wr3 l 0 = ⟨#[3]⟩ ++ putB l.length := by unfold wr3; rw [List.take_zero, List.map_nil, show catB [] = ⟨#[]⟩ from rfl, app_nil]
theorem wr2_size (l : List ByteArray) (k : Nat) (h : ∀ x ∈ l, x.size = 32) (hl : l.length ≤ 4) : (wr2 l k).size ≤ 200 := by
  unfold wr2
  have h1 := putB_size l.length
  have h2 := catB_size (l.take k) 32 (fun x hx => Nat.le_of_eq (h x (List.mem_of_mem_take hx)))
  have h3 := List.length_take_le' k l
  rw [ByteArray.size_append, ByteArray.size_append]
  show 1 + _ + _ ≤ _
  omega
theorem itmB_size (x : ObjL) (h : x.1.size = 32 ∧ x.2.size ≤ 40000) : (itmB x).size ≤ 40043 := by
  unfold itmB
  have := putT_size x.2
  rw [ByteArray.size_append]
  omega
theorem wr3_size (l : List ObjL) (k : Nat) (h : ∀ x ∈ l, x.1.size = 32 ∧ x.2.size ≤ 40000) (hl : l.length ≤ 4) : (wr3 l k).size ≤ 160200 := by
  unfold wr3
  have h1 := putB_size l.length
  have h2 := catB_size ((l.take k).map itmB) 40043 (fun x hx => by
    obtain ⟨y, hy, rfl⟩ := List.mem_map.1 hx
    exact itmB_size y (h y (List.mem_of_mem_take hy)))
  have h3 := List.length_take_le' k l
  rw [List.length_map] at h2
  rw [ByteArray.size_append, ByteArray.size_append]
  show 1 + _ + _ ≤ _
  omega
theorem wr2_all (l : List ByteArray) (h : fitL (M2 l) = true) : wr2 l l.length = writeL (M2 l) := by
  rw [write_2 l h]; unfold wr2; rw [List.take_length, app_assoc]
theorem wr3_all (l : List ObjL) (h : fitL (M3 l) = true) : wr3 l l.length = writeL (M3 l) := by
  rw [write_3 l h]; unfold wr3; rw [List.take_length, app_assoc]; rfl
theorem write_size (m : MsgL) : (writeL m).size ≤ 170000 := by
  cases h : fitL m with
  | false => unfold writeL; rw [if_pos h]; exact Nat.zero_le _
  | true =>
    rcases fit_cases m h with ⟨n, r, rfl, h1, h2⟩ | ⟨l, rfl, h1, h2, h3⟩ | ⟨l, rfl, h1, h2, h3⟩ | ⟨e, rfl, h1⟩
    · rw [write_1 n r h, ByteArray.size_append, ByteArray.size_append]
      have := putT_size n
      have hn : n.size ≤ 31 := by
        unfold nameB at h1
        rw [Bool.and_eq_true, Bool.and_eq_true] at h1
        exact of_decide_eq_true h1.2.1
      show 1 + _ ≤ _
      omega
    · rw [← wr2_all l h]; have := wr2_size l l.length h1 h3; omega
    · rw [← wr3_all l h]; have := wr3_size l l.length h1 h3; omega
    · rw [write_4 e h, ByteArray.size_append]
      have := putB_size e
      show 1 + _ ≤ _
      omega

theorem strCells_eq (s : ByteArray) : Lib.strCells s = Lib.byteCells s.data.toList := by unfold Lib.strCells Lib.byteCells; first | rfl | simp
theorem byteCells_app (a b : List UInt8) : Lib.byteCells a ++ Lib.byteCells b = Lib.byteCells (a ++ b) := by unfold Lib.byteCells; rw [List.map_append]
/-- A builder that holds a text. -/
def Bld (w : World) (B b : Nat) (s : ByteArray) : Prop := Lib.IsBuilderF 46 5 B b (Lib.byteCells s.data.toList) w
/-- What a builder's calls leave alone: what lies below B, and whatever is no row of bytes. -/
def Kp (B b : Nat) (w w' : World) : Prop := Below B w w' ∧ Lib.OthersKept 5 (some b) w w'
theorem Kp.refl (B b : Nat) (w : World) : Kp B b w w := ⟨Below.refl _ _, Lib.OthersKept.refl _ _ _⟩
theorem Kp.trans {B b : Nat} {w w1 w2 : World} (h : Kp B b w w1) (k : Kp B b w1 w2) : Kp B b w w2 := ⟨h.1.trans k.1, h.2.trans k.2⟩
theorem Kp.of {B b : Nat} {w w' : World} (h : Below w.heap.size w w') (hB : B ≤ w.heap.size) : Kp B b w w' :=
  ⟨h.mono hB, fun k o hk _ _ => (h.block k (Array.getElem?_eq_some_iff.1 hk).1).trans hk⟩
theorem Kp.put {B b : Nat} {w w1 w2 : World} (h : Kp B b w w1) (k : Below w1.heap.size w1 w2) (hB : B ≤ w.heap.size) : Kp B b w w2 := h.trans (Kp.of k (Nat.le_trans hB h.1.size))
theorem Kp.size {B b : Nat} {w w' : World} (h : Kp B b w w') : w.heap.size ≤ w'.heap.size := h.1.size
/-- A block that is no builder's and no row of bytes. -/
theorem Kp.cell {B b k : Nat} {w w' : World} {cs : Array Value} {T : TypeId} {fr : Nat × Nat} (h : Kp B b w w') (hk : w.heap[k]? = some (.cells cs T fr)) (hb : k ≠ b) (hT : T ≠ 5) (o : Nat) : w'.cell? ⟨k, o, none⟩ = cs[o]? :=
  Lib.cell_of_heap (h.2 k _ hk (fun e => hb (Option.some.inj e)) (fun c fz e => by injection e with _ e; exact hT e)) o
theorem Bld.on {w w' : World} {B b : Nat} {s : ByteArray} (h : Bld w B b s) (hb : Below w.heap.size w w') : Bld w' B b s := by
  have go : ∀ p bs, Lib.BuilderAtF 46 5 B b p bs w → Lib.BuilderAtF 46 5 B b p bs w' := by
    intro p bs hp
    have hl := hp.lt
    obtain ⟨h1, v, h2, h3, h4⟩ := hp
    exact ⟨h1, v, (hb.block b hl).trans h2, h3.kept (row := none) ⟨hb.os, hb.tape, hb.output, hb.size, fun k hk _ => hb.block k hk⟩ (Classical.em _), h4⟩
  rcases h with h | h
  · exact .inl (go _ _ h)
  · exact .inr (go _ _ h)
theorem Bld.fresh (w : World) : Bld (w.alloc (.cells #[.pointer none, .slice none 0 0] 46)) w.heap.size w.heap.size ⟨#[]⟩ := Lib.IsBuilderF.of (Lib.fresh_isBuilder 46 5 w)
theorem bl_byte (B b : Nat) (s : ByteArray) (c : Nat) (w : World) (h : Bld w B b s) (hc : c < 256) (hlen : s.size ≤ 1000000) (hBw : B ≤ w.heap.size) :
    Calls Tryd.prog 19 #[.pointer (some ⟨b, 0, none⟩), .int .u8 c] w fun e w' => e = .returned .nilIface ∧ Bld w' B b (s ++ ⟨#[UInt8.ofNat c]⟩) ∧ Kp B b w w' := by
  refine (Any.Builder_WriteByte_k lays167 extra167 B b _ c w h (by rw [byteCells_len]; have : s.data.toList.length = s.size := by rw [Array.length_toList]; rfl
                                                                   omega) hBw).mono fun e w' ⟨he, hb, hB, hK⟩ => ⟨he, ?_, hB, hK⟩
  rw [byteCells_snoc _ c hc] at hb
  unfold Bld
  rw [ByteArray.data_append, Array.toList_append]
  exact .inr hb
theorem bl_str (B b : Nat) (s t : ByteArray) (w : World) (h : Bld w B b s) (hlen : s.size + t.size ≤ 1000000) (hBw : B ≤ w.heap.size) :
    Calls Tryd.prog 20 #[.pointer (some ⟨b, 0, none⟩), .string t] w fun e w' => e = .returned (.tuple #[.int .i64 (t.size : Nat), .nilIface]) ∧ Bld w' B b (s ++ t) ∧ Kp B b w w' := by
  have hl : (Lib.byteCells s.data.toList).length = s.size := by rw [byteCells_len, Array.length_toList]; rfl
  refine (Any.Builder_WriteString_k { Tryd.lays156 with } { Tryd.Builder_Extra_156 with } B b _ t w h (by rw [hl]; omega) hBw).mono fun e w' ⟨he, hb, hB, hK⟩ => ⟨he, ?_, hB, hK⟩
  rw [strCells_eq, byteCells_app] at hb
  unfold Bld
  rw [ByteArray.data_append, Array.toList_append]
  exact .inr hb
theorem bl_end (B b : Nat) (s : ByteArray) (w : World) (h : Bld w B b s) (hBw : B ≤ w.heap.size) :
    Calls Tryd.prog 24 #[.pointer (some ⟨b, 0, none⟩)] w fun e w' => e = .returned (.string s) ∧ Below B w w' := by
  have := Any.Builder_String_any_k lays169 extra169 B b s.data.toList w h hBw
  rw [Array.toArray_toList] at this
  exact this.mono fun e w' ⟨he, _, hB, _⟩ => ⟨he, hB⟩
theorem join_cat (l : List ByteArray) : Lib.join (l.map (·.data.toList)) (⟨#[]⟩ : ByteArray).data.toList = (catB l).data.toList := by
  induction l with
  | nil => rfl
  | cons x l ih =>
    rw [catB_cons, ByteArray.data_append, Array.toList_append, ← ih]
    cases l with
    | nil => simp [Lib.join]
    | cons y l => simp [Lib.join]
theorem join_any (u : Value) (l : List ByteArray) (w : World) (h : Strs w w.heap.size u l) (hs : ∀ x ∈ l, x.size ≤ 1000) (hl : l.length ≤ 1000) :
    Calls Tryd.prog 23 #[u, .string ⟨#[]⟩] w fun e w' => e = .returned (.string (catB l)) ∧ Below w.heap.size w w' := by
  obtain ⟨A, c, rfl, h1, h2, h3⟩ := h
  rcases Nat.eq_zero_or_pos l.length with h0 | h0
  · obtain rfl : l = [] := List.length_eq_zero_iff.1 h0
    exact (Tryd.strings_Join_none A c ⟨#[]⟩ w).mono fun e w' ⟨he, hw⟩ => ⟨he, by rw [hw]; exact Below.refl _ _⟩
  · obtain ⟨b, o, rfl, hb, hc⟩ := h3.at_ (by rw [List.length_map]; omega)
    have hz : (catB l).size ≤ 1000 * l.length := catB_size l 1000 hs
    have hz2 : (catB l).data.toList.length = (catB l).size := by rw [Array.length_toList]; rfl
    refine (Tryd.strings_Join b o c l ⟨#[]⟩ w (fun j x hj => hc j _ (by rw [List.getElem?_map, hj]; rfl)) hb (by omega) h1 (by rw [join_cat]; omega)).mono fun e w' ⟨he, hw⟩ => ⟨?_, hw⟩
    rw [he, join_cat, Array.toArray_toList]

end Go.Proofs.YthlajcohbpjgkaaDoor
