/-
  THE WALK OF NetDoes.
-/
import Derived.Test.YtgllojpeggmleaaNDoesB
import Derived.Test.YtgllojpeggmleaaNDoesC
namespace Go.Proofs.Ytgllojpeggmleaa
open Go.RowKit Go.Proofs.Mem

theorem does_walk (D D' : Nat → Value) (S S' : Nat → List ByteArray) (ch ch' raw : ByteArray) (L L' : Nat → Int) (fair fair' to at_ : Int) (w : World) (hS : SkyP w D S) (hT : SkyP w D' S') (hch : ch.size ≤ 9223372036854775807) (hch' : ch'.size ≤ 9223372036854775807) (hraw : raw.size ≤ 9223372036854775807)
    (hz : ∀ i, i < 2 → ∀ x ∈ S i, x.size ≤ 9223372036854775807) :
    Calls Try.prog 6 #[skyV D ch L fair, skyV D' ch' L' fair', .int .i64 to, .int .i64 at_, .string raw] w fun e w' => e = .returned (.bool true) ∧ Below w.heap.size w w' := by
  have KS : Hid (∀ W, Below w.heap.size w W → SkyP W D S) := Lib.hid fun W hB => hS.on hB
  have KT : Hid (∀ W, Below w.heap.size w W → SkyP W D' S') := Lib.hid fun W hB => hT.on hB
  have HZ := Lib.hid hz
  have e0 : Hid (∃ A c, D 0 = .slice A (S 0).length c) := Lib.hid (by obtain ⟨A, c, e, _⟩ := hS.1; exact ⟨_, _, e⟩)
  have e1 : Hid (∃ A c, D 1 = .slice A (S 1).length c) := Lib.hid (by obtain ⟨A, c, e, _⟩ := hS.2; exact ⟨_, _, e⟩)
  have e0' : Hid (∃ A c, D' 0 = .slice A (S' 0).length c) := Lib.hid (by obtain ⟨A, c, e, _⟩ := hT.1; exact ⟨_, _, e⟩)
  have e1' : Hid (∃ A c, D' 1 = .slice A (S' 1).length c) := Lib.hid (by obtain ⟨A, c, e, _⟩ := hT.2; exact ⟨_, _, e⟩)
  by_cases f1 : (S 0).length ≤ 70 ∧ (S 1).length ≤ 70 ∧ ch.size ≤ 1000
  case neg => exact does_few1 D D' S S' ch ch' raw L L' fair fair' to at_ w hch hch' hraw KS KT HZ e0 e1 e0' e1' (Lib.hid (decide_eq_false f1))
  by_cases f2 : (S' 0).length ≤ 70 ∧ (S' 1).length ≤ 70 ∧ ch'.size ≤ 1000
  case neg => exact does_few2 D D' S S' ch ch' raw L L' fair fair' to at_ w hch hch' hraw KS KT HZ e0 e1 e0' e1' (Lib.hid (decide_eq_true f1)) (Lib.hid (decide_eq_false f2))
  by_cases f3 : (70000 : Int) < (raw.size : Int)
  · exact does_raw D D' S S' ch ch' raw L L' fair fair' to at_ w hch hch' hraw KS KT HZ e0 e1 e0' e1' (Lib.hid (decide_eq_true f1)) (Lib.hid (decide_eq_true f2)) f3
  obtain ⟨fb, hfb⟩ := some_bool (FitS S L fair)
  obtain ⟨sb, hsb⟩ := some_bool (SameS S ch L fair S' ch' L' fair')
  cases fb <;> cases sb
  · exact does_no_false D D' S S' ch ch' raw L L' fair fair' to at_ w hch hch' hraw KS KT HZ e0 e1 e0' e1' (Lib.hid (decide_eq_true f1)) (Lib.hid f1) (Lib.hid (decide_eq_true f2)) f3 (Lib.hid hfb) (Lib.hid hsb)
  · exact does_no_true D D' S S' ch ch' raw L L' fair fair' to at_ w hch hch' hraw KS KT HZ e0 e1 e0' e1' (Lib.hid (decide_eq_true f1)) (Lib.hid f1) (Lib.hid (decide_eq_true f2)) f3 (Lib.hid hfb) (Lib.hid hsb)
  · exact does_yes_false D D' S S' ch ch' raw L L' fair fair' to at_ w hch hch' hraw KS KT HZ e0 e1 e0' e1' (Lib.hid (decide_eq_true f1)) (Lib.hid f1) (Lib.hid (decide_eq_true f2)) f3 (Lib.hid hfb) (Lib.hid hsb)
  · exact does_yes_true D D' S S' ch ch' raw L L' fair fair' to at_ w hch hch' hraw KS KT HZ e0 e1 e0' e1' (Lib.hid (decide_eq_true f1)) (Lib.hid f1) (Lib.hid (decide_eq_true f2)) f3 (Lib.hid hfb) (Lib.hid hsb)

end Go.Proofs.Ytgllojpeggmleaa
