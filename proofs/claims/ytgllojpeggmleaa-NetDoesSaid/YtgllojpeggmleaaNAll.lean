/-
  Post and Pull of both packages, whatever side and place: one answer.
-/
import Derived.Test.YtgllojpeggmleaaRNetC
import Derived.Test.YtgllojpeggmleaaRPull
import Derived.Test.YtgllojpeggmleaaNBad
import Derived.Test.YtgllojpeggmleaaNFit
namespace Go.Proofs.Ytgllojpeggmleaa
open Go.RowKit Go.Proofs.Mem
set_option linter.unusedVariables false

def goodP (to at_ : Int) (raw : ByteArray) : Prop := (0 ≤ to ∧ to ≤ 1) ∧ (0 ≤ at_ ∧ at_ ≤ 3) ∧ raw.size ≤ 65536
instance (to at_ : Int) (raw : ByteArray) : Decidable (goodP to at_ raw) := by unfold goodP; infer_instance
def slot (to at_ : Int) : Nat := 4 * to.toNat + at_.toNat
def postS (S : Nat → List ByteArray) (ch : ByteArray) (L : Nat → Int) (fair to at_ : Int) (raw : ByteArray) : Nat → List ByteArray :=
  if goodP to at_ raw then upd S to.toNat (postD ch (L (slot to at_)) fair (S to.toNat) raw) else S
def postC (ch : ByteArray) (to at_ : Int) (raw : ByteArray) : ByteArray := if goodP to at_ raw then restOf ch else ch
def postLs (ch : ByteArray) (L : Nat → Int) (fair to at_ : Int) (raw : ByteArray) : Nat → Int :=
  if goodP to at_ raw then upd L (slot to at_) (postL ch (L (slot to at_)) fair) else L

/-- A sky's two slices hold what they should. -/
def SkyP (w : World) (D : Nat → Value) (S : Nat → List ByteArray) : Prop := Strs w w.heap.size (D 0) (S 0) ∧ Strs w w.heap.size (D 1) (S 1)
theorem SkyP.on {w w' : World} {D : Nat → Value} {S : Nat → List ByteArray} (h : SkyP w D S) (hb : Below w.heap.size w w') : SkyP w' D S := ⟨h.1.on hb, h.2.on hb⟩
theorem SkyP.at_ {w : World} {D : Nat → Value} {S : Nat → List ByteArray} (h : SkyP w D S) {i : Nat} (hi : i < 2) : Strs w w.heap.size (D i) (S i) := by
  have : i = 0 ∨ i = 1 := by omega
  rcases this with rfl | rfl
  · exact h.1
  · exact h.2
theorem SkyP.sl {w : World} {D : Nat → Value} {S : Nat → List ByteArray} (h : SkyP w D S) {i : Nat} (hi : i < 2) : ∃ A n c, D i = .slice A n c := by
  obtain ⟨A, c, e, _⟩ := h.at_ hi
  exact ⟨_, _, _, e⟩
theorem SkyP.upd {w : World} {D : Nat → Value} {S : Nat → List ByteArray} (h : SkyP w D S) {i : Nat} {V : Value} {ss : List ByteArray} (hV : Strs w w.heap.size V ss) : SkyP w (upd D i V) (upd S i ss) := by
  unfold SkyP Go.Proofs.Ytgllojpeggmleaa.upd
  constructor
  · by_cases e : 0 = i
    · rw [if_pos e, if_pos e]; exact hV
    · rw [if_neg e, if_neg e]; exact h.1
  · by_cases e : 1 = i
    · rw [if_pos e, if_pos e]; exact hV
    · rw [if_neg e, if_neg e]; exact h.2

def PostR (S : Nat → List ByteArray) (ch : ByteArray) (L : Nat → Int) (fair to at_ : Int) (raw : ByteArray) (w : World) (e : Ending) (w' : World) : Prop :=
  ∃ D2, e = .returned (skyV D2 (postC ch to at_ raw) (postLs ch L fair to at_ raw) fair) ∧ SkyP w' D2 (postS S ch L fair to at_ raw) ∧ Below w.heap.size w w'

theorem goodP_neg {to at_ : Int} {raw : ByteArray} (h : ¬ goodP to at_ raw) : to < 0 ∨ 1 < to ∨ at_ < 0 ∨ 3 < at_ ∨ 65536 < raw.size := by
  unfold goodP at h
  omega
theorem slot_le {to at_ : Int} {raw : ByteArray} (h : goodP to at_ raw) : to.toNat < 2 ∧ at_.toNat < 4 ∧ ((to.toNat : Nat) : Int) = to ∧ ((at_.toNat : Nat) : Int) = at_ := by
  unfold goodP at h
  omega

theorem npost_all (D : Nat → Value) (S : Nat → List ByteArray) (ch raw : ByteArray) (L : Nat → Int) (fair to at_ : Int) (w : World) (h : SkyP w D S) (hF : FitS S L fair) (hch : ch.size ≤ 9223372036854775807) (hr : raw.size ≤ 9223372036854775807) :
    Calls Try.prog 10 #[skyV D ch L fair, .int .i64 to, .int .i64 at_, .string raw] w (PostR S ch L fair to at_ raw w) := by
  unfold PostR postC postLs postS
  by_cases hg : goodP to at_ raw
  · simp only [if_pos hg]
    obtain ⟨ht, ha, et, ea⟩ := slot_le hg
    have hf := hF.2.2 to.toNat ht
    have hL := hf.2.1 at_.toNat ha
    have h1 := post_any to.toNat at_.toNat ht ha D (S to.toNat) ch raw L fair w hg.2.2 hch (h.at_ ht) (h.sl (by omega)) (by omega) hL.1 (by have := hF.2.1; omega)
    rw [et, ea] at h1
    refine h1.mono ?_
    rintro e w' ⟨V, rfl, hV, _, hb⟩
    exact ⟨_, rfl, (h.on hb).upd hV, hb⟩
  · simp only [if_neg hg]
    refine (npost_bad D ch raw L fair to at_ w (h.sl (by omega)) (h.sl (by omega)) hr (goodP_neg hg)).mono ?_
    rintro e w' ⟨rfl, hb⟩
    exact ⟨_, rfl, h.on hb, hb⟩
theorem rpost_all (D : Nat → Value) (S : Nat → List ByteArray) (ch raw : ByteArray) (L : Nat → Int) (fair to at_ : Int) (w : World) (h : SkyP w D S) (hF : FitS S L fair) (hch : ch.size ≤ 9223372036854775807) (hr : raw.size ≤ 9223372036854775807) :
    Calls Try.prog 16 #[skyV D ch L fair, .int .i64 to, .int .i64 at_, .string raw] w (PostR S ch L fair to at_ raw w) := by
  unfold PostR postC postLs postS
  by_cases hg : goodP to at_ raw
  · simp only [if_pos hg]
    obtain ⟨ht, ha, et, ea⟩ := slot_le hg
    have hf := hF.2.2 to.toNat ht
    have hL := hf.2.1 at_.toNat ha
    have h1 := rpost_any to.toNat at_.toNat ht ha D (S to.toNat) ch raw L fair w hg.2.2 hch (h.at_ ht) (h.sl (by omega)) (by omega) hL.1 (by have := hF.2.1; omega) hF.1 hF.2.1
    rw [et, ea] at h1
    refine h1.mono ?_
    rintro e w' ⟨V, rfl, hV, _, hb⟩
    exact ⟨_, rfl, (h.on hb).upd hV, hb⟩
  · simp only [if_neg hg]
    refine (rpost_bad D ch raw L fair to at_ w (h.sl (by omega)) (h.sl (by omega)) hr (goodP_neg hg)).mono ?_
    rintro e w' ⟨rfl, hb⟩
    exact ⟨_, rfl, h.on hb, hb⟩

theorem last_mem {l : List ByteArray} {x : ByteArray} (h : x ∈ last60 l) : x ∈ l := List.mem_of_mem_drop h
theorem last_len (l : List ByteArray) : (last60 l).length ≤ 60 := by unfold last60; rw [List.length_drop]; omega
theorem post_fit {S : Nat → List ByteArray} {ch : ByteArray} {L : Nat → Int} {fair to at_ : Int} {raw : ByteArray} (h : FitS S L fair) : FitS (postS S ch L fair to at_ raw) (postLs ch L fair to at_ raw) fair := by
  unfold postS postLs
  by_cases hg : goodP to at_ raw
  · simp only [if_pos hg]
    obtain ⟨ht, ha, et, ea⟩ := slot_le hg
    refine ⟨h.1, h.2.1, fun i hi => ?_⟩
    obtain ⟨h1, h2, h3⟩ := h.2.2 i hi
    have hmem : ∀ x ∈ postD ch (L (slot to at_)) fair (S to.toNat) raw, x ∈ S to.toNat ∨ x = raw := by
      intro x hx
      unfold postD at hx
      split at hx
      · exact .inl hx
      · split at hx
        · have := last_mem hx; simp at this; exact this.symm
        · split at hx
          · have := last_mem hx; simpa using this
          · have := last_mem hx; simpa using this
    have hlen : (postD ch (L (slot to at_)) fair (S to.toNat) raw).length ≤ 60 := by
      unfold postD
      split
      · exact (h.2.2 _ ht).1
      · split
        · exact last_len _
        · split <;> exact last_len _
    refine ⟨?_, fun k hk => ?_, fun x hx => ?_⟩
    · unfold upd
      split
      · exact hlen
      · exact h1
    · unfold upd
      split
      · have hL := (h.2.2 to.toNat ht).2.1 at_.toNat ha
        have hL' : 0 ≤ L (slot to at_) ∧ L (slot to at_) < fair := hL
        unfold postL
        have := h.1
        split
        · omega
        · omega
      · exact h2 k hk
    · unfold upd at hx
      split at hx
      · rcases hmem x hx with hm | rfl
        · exact (h.2.2 _ ht).2.2 x hm
        · exact hg.2.2
      · exact h3 x hx
  · simp only [if_neg hg]
    exact h

/-- What is pulled. -/
def pullS (S : Nat → List ByteArray) (to : Int) : Nat → List ByteArray := if 0 ≤ to ∧ to ≤ 1 then upd S to.toNat (S to.toNat).tail else S
def pullX (S : Nat → List ByteArray) (to : Int) : ByteArray := if 0 ≤ to ∧ to ≤ 1 then (S to.toNat).headD ⟨#[]⟩ else ⟨#[]⟩
def pullO (S : Nat → List ByteArray) (to : Int) : Bool := if 0 ≤ to ∧ to ≤ 1 then !(S to.toNat).isEmpty else false
def PullR (S : Nat → List ByteArray) (ch : ByteArray) (L : Nat → Int) (fair to : Int) (w : World) (e : Ending) (w' : World) : Prop :=
  ∃ D2, e = .returned (.tuple #[skyV D2 ch L fair, .string (pullX S to), .bool (pullO S to)]) ∧ SkyP w' D2 (pullS S to) ∧ Below w.heap.size w w'
theorem upd_self {α : Type} (f : Nat → α) (k : Nat) (x : α) (h : f k = x) : upd f k x = f := by
  funext j
  unfold upd
  split
  · rename_i e; rw [e, h]
  · rfl
theorem pull_fit {S : Nat → List ByteArray} {L : Nat → Int} {fair to : Int} (h : FitS S L fair) : FitS (pullS S to) L fair := by
  unfold pullS
  split
  · rename_i ht
    refine ⟨h.1, h.2.1, fun i hi => ?_⟩
    obtain ⟨h1, h2, h3⟩ := h.2.2 i hi
    refine ⟨?_, h2, fun x hx => ?_⟩
    · unfold upd
      split
      · have := (h.2.2 to.toNat (by omega)).1
        rw [List.length_tail]; omega
      · exact h1
    · unfold upd at hx
      split at hx
      · exact (h.2.2 to.toNat (by omega)).2.2 x (List.mem_of_mem_tail hx)
      · exact h3 x hx
  · exact h

theorem npull_all (D : Nat → Value) (S : Nat → List ByteArray) (ch : ByteArray) (L : Nat → Int) (fair to : Int) (w : World) (h : SkyP w D S) (hF : FitS S L fair) :
    Calls Try.prog 11 #[skyV D ch L fair, .int .i64 to] w (PullR S ch L fair to w) := by
  unfold PullR pullX pullO pullS
  by_cases ht : 0 ≤ to ∧ to ≤ 1
  · simp only [if_pos ht]
    have h01 : to = 0 ∨ to = 1 := by omega
    rcases h01 with rfl | rfl
    · have hl := (hF.2.2 0 (by omega)).1
      cases hS : S 0 with
      | nil =>
        refine (pull0_0 (D 0) (D 1) ch (L 0) (L 1) (L 2) (L 3) (L 4) (L 5) (L 6) (L 7) fair w (by rw [← hS]; exact h.1) (h.sl (by omega))).mono ?_
        rintro e w' ⟨V, rfl, hV, _, hb⟩
        exact ⟨upd D 0 V, by simp [hS, skyV, upd], (h.on hb).upd (by simpa [hS] using hV), hb⟩
      | cons x ss =>
        rw [hS] at hl
        refine (pull1_0 (D 0) (D 1) x ss ch (L 0) (L 1) (L 2) (L 3) (L 4) (L 5) (L 6) (L 7) fair w (by rw [← hS]; exact h.1) (h.sl (by omega)) (by simp at hl; omega)).mono ?_
        rintro e w' ⟨V, rfl, hV, _, hb⟩
        exact ⟨upd D 0 V, by simp [hS, skyV, upd], (h.on hb).upd (by simpa [hS] using hV), hb⟩
    · have hl := (hF.2.2 1 (by omega)).1
      cases hS : S 1 with
      | nil =>
        refine (pull0_1 (D 0) (D 1) ch (L 0) (L 1) (L 2) (L 3) (L 4) (L 5) (L 6) (L 7) fair w (by rw [← hS]; exact h.2) (h.sl (by omega))).mono ?_
        rintro e w' ⟨V, rfl, hV, _, hb⟩
        exact ⟨upd D 1 V, by simp [hS, skyV, upd], (h.on hb).upd (by simpa [hS] using hV), hb⟩
      | cons x ss =>
        rw [hS] at hl
        refine (pull1_1 (D 0) (D 1) x ss ch (L 0) (L 1) (L 2) (L 3) (L 4) (L 5) (L 6) (L 7) fair w (by rw [← hS]; exact h.2) (h.sl (by omega)) (by simp at hl; omega)).mono ?_
        rintro e w' ⟨V, rfl, hV, _, hb⟩
        exact ⟨upd D 1 V, by simp [hS, skyV, upd], (h.on hb).upd (by simpa [hS] using hV), hb⟩
  · simp only [if_neg ht]
    refine (npull_bad D ch L fair to w (h.sl (by omega)) (h.sl (by omega)) (by omega)).mono ?_
    rintro e w' ⟨rfl, hb⟩
    exact ⟨_, rfl, h.on hb, hb⟩
theorem rpull_all (D : Nat → Value) (S : Nat → List ByteArray) (ch : ByteArray) (L : Nat → Int) (fair to : Int) (w : World) (h : SkyP w D S) (hF : FitS S L fair) :
    Calls Try.prog 15 #[skyV D ch L fair, .int .i64 to] w (PullR S ch L fair to w) := by
  unfold PullR pullX pullO pullS
  by_cases ht : 0 ≤ to ∧ to ≤ 1
  · simp only [if_pos ht]
    have h01 : to = 0 ∨ to = 1 := by omega
    rcases h01 with rfl | rfl
    · have hl := (hF.2.2 0 (by omega)).1
      cases hS : S 0 with
      | nil =>
        refine (rpull0_0 (D 0) (D 1) ch (L 0) (L 1) (L 2) (L 3) (L 4) (L 5) (L 6) (L 7) fair w (by rw [← hS]; exact h.1) (h.sl (by omega))).mono ?_
        rintro e w' ⟨V, rfl, hV, _, hb⟩
        exact ⟨upd D 0 V, by simp [hS, skyV, upd], (h.on hb).upd (by simpa [hS] using hV), hb⟩
      | cons x ss =>
        rw [hS] at hl
        refine (rpull1_0 (D 0) (D 1) x ss ch (L 0) (L 1) (L 2) (L 3) (L 4) (L 5) (L 6) (L 7) fair w (by rw [← hS]; exact h.1) (h.sl (by omega)) (by simp at hl; omega)).mono ?_
        rintro e w' ⟨V, rfl, hV, _, hb⟩
        exact ⟨upd D 0 V, by simp [hS, skyV, upd], (h.on hb).upd (by simpa [hS] using hV), hb⟩
    · have hl := (hF.2.2 1 (by omega)).1
      cases hS : S 1 with
      | nil =>
        refine (rpull0_1 (D 0) (D 1) ch (L 0) (L 1) (L 2) (L 3) (L 4) (L 5) (L 6) (L 7) fair w (by rw [← hS]; exact h.2) (h.sl (by omega))).mono ?_
        rintro e w' ⟨V, rfl, hV, _, hb⟩
        exact ⟨upd D 1 V, by simp [hS, skyV, upd], (h.on hb).upd (by simpa [hS] using hV), hb⟩
      | cons x ss =>
        rw [hS] at hl
        refine (rpull1_1 (D 0) (D 1) x ss ch (L 0) (L 1) (L 2) (L 3) (L 4) (L 5) (L 6) (L 7) fair w (by rw [← hS]; exact h.2) (h.sl (by omega)) (by simp at hl; omega)).mono ?_
        rintro e w' ⟨V, rfl, hV, _, hb⟩
        exact ⟨upd D 1 V, by simp [hS, skyV, upd], (h.on hb).upd (by simpa [hS] using hV), hb⟩
  · simp only [if_neg ht]
    refine (rpull_bad D ch L fair to w (h.sl (by omega)) (h.sl (by omega)) (by omega)).mono ?_
    rintro e w' ⟨rfl, hb⟩
    exact ⟨_, rfl, h.on hb, hb⟩

end Go.Proofs.Ytgllojpeggmleaa
