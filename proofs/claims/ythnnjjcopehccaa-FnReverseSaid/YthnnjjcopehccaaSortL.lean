/- Rows of tones in order: what a sort by compareTones owes. No program in sight. -/
import Derived.Test.YthnnjjcopehccaaRot
set_option linter.unusedSimpArgs false
set_option linter.unnecessarySimpa false
set_option linter.unusedVariables false
namespace Go.Proofs.Ythnnjjcopehccaa
open Go.RowKit

theorem before_irrefl (x : Ton) : ¬ before x x := by unfold before; omega
theorem before_trans {x y z : Ton} (h : before x y) (g : before y z) : before x z := by unfold before at *; omega
theorem before_asymm {x y : Ton} (h : before x y) : ¬ before y x := by unfold before at *; omega
/-- x may lie ahead of y. -/
def leT (x y : Ton) : Prop := ¬ before y x
theorem leT_refl (x : Ton) : leT x x := before_irrefl x
theorem leT_trans {x y z : Ton} (h : leT x y) (g : leT y z) : leT x z := by unfold leT before at *; omega
theorem leT_of {x y : Ton} (h : before x y) : leT x y := before_asymm h
theorem leT_total (x y : Ton) : leT x y ∨ leT y x := by unfold leT before; omega
theorem before_le {x y z : Ton} (h : before x y) (g : leT y z) : before x z := by unfold leT before at *; omega
theorem le_before {x y z : Ton} (h : leT x y) (g : before y z) : before x z := by unfold leT before at *; omega
theorem before_le' {x y z : Ton} (h : leT x y) (g : before y z) : before x z := le_before h g
/-- In order. -/
def Srt (d : List Ton) : Prop := d.Pairwise leT

theorem srt_nil : Srt [] := List.Pairwise.nil
theorem srt_one (x : Ton) : Srt [x] := List.pairwise_singleton _ _
theorem Srt.app {a b : List Ton} (ha : Srt a) (hb : Srt b) (h : ∀ x ∈ a, ∀ y ∈ b, leT x y) : Srt (a ++ b) := List.pairwise_append.2 ⟨ha, hb, h⟩
theorem Srt.left {a b : List Ton} (h : Srt (a ++ b)) : Srt a := (List.pairwise_append.1 h).1
theorem Srt.right {a b : List Ton} (h : Srt (a ++ b)) : Srt b := (List.pairwise_append.1 h).2.1
theorem Srt.cross {a b : List Ton} (h : Srt (a ++ b)) : ∀ x ∈ a, ∀ y ∈ b, leT x y := (List.pairwise_append.1 h).2.2
theorem Srt.insert {P Q : List Ton} {x : Ton} (h : Srt (P ++ Q)) (h1 : ∀ y ∈ P, leT y x) (h2 : ∀ y ∈ Q, leT x y) : Srt (P ++ x :: Q) :=
  Srt.app h.left (List.pairwise_cons.2 ⟨h2, h.right⟩) (by
    intro a ha b hb
    rcases List.mem_cons.1 hb with rfl | hb
    · exact h1 a ha
    · exact h.cross a ha b hb)
theorem Srt.lasts {P : List Ton} {s : Ton} (h : Srt (P ++ [s])) : ∀ y ∈ P, leT y s := fun y hy => h.cross y hy s (List.mem_singleton.2 rfl)
theorem Srt.all_le {P : List Ton} {s x : Ton} (h : Srt (P ++ [s])) (g : leT s x) : ∀ y ∈ P ++ [s], leT y x := by
  intro y hy
  rcases List.mem_append.1 hy with hy | hy
  · exact leT_trans (h.lasts y hy) g
  · rw [List.mem_singleton.1 hy]; exact g
theorem perm_mid (P Q : List Ton) (x : Ton) : (P ++ x :: Q).Perm (x :: (P ++ Q)) := List.perm_middle

end Go.Proofs.Ythnnjjcopehccaa
