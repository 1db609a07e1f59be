/- A row of tones of the call's own: one tone of it read, one stored. -/
import Derived.Test.YthnnjjcopehccaaApp
import Derived.Test.YthnnjjcopehccaaReg2
import Derived.Test.YthnnjjcopehccaaToneC
set_option linter.unusedSimpArgs false
set_option linter.unnecessarySimpa false
set_option linter.unusedVariables false
namespace Go.Proofs.Ythnnjjcopehccaa
open Go.RowKit

/-- Block g holds the n tones d. -/
def TR (w : World) (base g n cap : Nat) (d : List Ton) : Prop := d.length = n ∧ w.ownsRow base 30 3 (.slice (some ⟨g, 0, none⟩) n cap) n (d.flatMap Ton.cells)
section
variable {w w' : World} {base g n cap : Nat} {d : List Ton}
theorem TR.mono (h : TR w base g n cap d) (hb : Below w.heap.size w w') : TR w' base g n cap d := ⟨h.1, owns_mono h.2 hb⟩
theorem TR.len (h : TR w base g n cap d) : d.length = n := h.1
theorem TR.lt (h : TR w base g n cap d) : base ≤ g ∧ g < w.heap.size := h.2.lt g rfl
theorem TR.at (h : TR w base g n cap d) {k : Nat} (hk : k < d.length) :
    w.cell? ⟨g, k * 3, none⟩ = some (.int .i64 d[k].note) ∧ w.cell? ⟨g, k * 3 + 1, none⟩ = some (.int .i64 d[k].start) ∧ w.cell? ⟨g, k * 3 + 2, none⟩ = some (.int .i64 d[k].len) := by
  have hl : d.length = n := h.1
  have g0 := flat_at (f := Ton.cells) (m := 3) (fun _ => rfl) d k 0 hk (by omega) (u := .int .i64 d[k].note) rfl
  have g1 := flat_at (f := Ton.cells) (m := 3) (fun _ => rfl) d k 1 hk (by omega) (u := .int .i64 d[k].start) rfl
  have g2 := flat_at (f := Ton.cells) (m := 3) (fun _ => rfl) d k 2 hk (by omega) (u := .int .i64 d[k].len) rfl
  exact ⟨by rw [h.2.cellAt _ (by omega)]; simpa using g0, by rw [h.2.cellAt _ (by omega)]; exact g1, by rw [h.2.cellAt _ (by omega)]; exact g2⟩
theorem TR.fr (h : TR w base g n cap d) (o : Nat) : w.frozen? ⟨g, o, none⟩ = false := h.2.frozenAt o
theorem TR.set (h : TR w base g n cap d) {k : Nat} (hk : k < d.length) (x : Ton) :
    TR (((w.setCell ⟨g, k * 3, none⟩ (.int .i64 x.note)).setCell ⟨g, k * 3 + 1, none⟩ (.int .i64 x.start)).setCell ⟨g, k * 3 + 2, none⟩ (.int .i64 x.len)) base g n cap (d.set k x) ∧
      w.grownBy (((w.setCell ⟨g, k * 3, none⟩ (.int .i64 x.note)).setCell ⟨g, k * 3 + 1, none⟩ (.int .i64 x.start)).setCell ⟨g, k * 3 + 2, none⟩ (.int .i64 x.len)) (some g) := by
  have e : d.flatMap Ton.cells = (d.take k).flatMap Ton.cells ++ (.int .i64 d[k].note :: .int .i64 d[k].start :: .int .i64 d[k].len :: (d.drop (k + 1)).flatMap Ton.cells) := by
    conv => lhs; rw [← List.take_append_drop k d, List.drop_eq_getElem_cons hk]
    rw [List.flatMap_append, List.flatMap_cons]; rfl
  have e2 : (d.set k x).flatMap Ton.cells = (d.take k).flatMap Ton.cells ++ (.int .i64 x.note :: .int .i64 x.start :: .int .i64 x.len :: (d.drop (k + 1)).flatMap Ton.cells) := by
    rw [List.set_eq_take_append_cons_drop, if_pos hk, List.flatMap_append, List.flatMap_cons]; rfl
  have h2 := h.2
  rw [e] at h2
  have s := stored3 h2 (j := k * 3) (by rw [flat_len (f := Ton.cells) (m := 3) (fun _ => rfl), List.length_take, Nat.min_eq_left (by omega)]) (.int .i64 x.note) (.int .i64 x.start) (.int .i64 x.len)
  exact ⟨⟨by rw [List.length_set]; exact h.1, by rw [e2]; exact s.1⟩, s.2⟩
theorem getElem_mid (P Q : List Ton) (x : Ton) (h : P.length < (P ++ x :: Q).length) : (P ++ x :: Q)[P.length]'h = x := by simp
theorem set_mid (P Q : List Ton) (x y : Ton) : (P ++ x :: Q).set P.length y = P ++ y :: Q := by rw [List.set_append_right _ _ (Nat.le_refl _), Nat.sub_self]; rfl
theorem TR.atM {P Q : List Ton} {x : Ton} {k : Nat} (h : TR w base g n cap (P ++ x :: Q)) (hk : P.length = k) :
    w.cell? ⟨g, k * 3, none⟩ = some (.int .i64 x.note) ∧ w.cell? ⟨g, k * 3 + 1, none⟩ = some (.int .i64 x.start) ∧ w.cell? ⟨g, k * 3 + 2, none⟩ = some (.int .i64 x.len) := by
  subst hk
  have h1 := h.at (k := P.length) (by simp)
  rwa [getElem_mid] at h1
theorem TR.setM {P Q : List Ton} {x : Ton} {k : Nat} (h : TR w base g n cap (P ++ x :: Q)) (hk : P.length = k) (y : Ton) :
    TR (((w.setCell ⟨g, k * 3, none⟩ (.int .i64 y.note)).setCell ⟨g, k * 3 + 1, none⟩ (.int .i64 y.start)).setCell ⟨g, k * 3 + 2, none⟩ (.int .i64 y.len)) base g n cap (P ++ y :: Q) ∧
      w.grownBy (((w.setCell ⟨g, k * 3, none⟩ (.int .i64 y.note)).setCell ⟨g, k * 3 + 1, none⟩ (.int .i64 y.start)).setCell ⟨g, k * 3 + 2, none⟩ (.int .i64 y.len)) (some g) := by
  subst hk
  have h1 := h.set (k := P.length) (by simp) y
  rwa [set_mid] at h1
theorem TR.drew (h : TR w base g n cap d) : TR w.drew base g n cap d := h
theorem grown_row' {row : Option Nat} (h : Below w.heap.size w w') : w.grownBy w' row := ⟨h.os, h.tape, h.output, h.size, fun k hk _ => h.block k hk⟩
end

theorem grown_drew2 {a b : World} {row : Option Nat} (h : a.grownBy b row) : a.drew.grownBy b.drew row := ⟨h.os, h.tape, h.output, h.size, h.block⟩
theorem grown_drewR {a b : World} {row : Option Nat} (h : a.grownBy b row) : a.grownBy b.drew row := ⟨h.os, h.tape, h.output, h.size, h.block⟩
/-- Two tones exchanged. -/
def swapL (d : List Ton) (i j : Nat) (hi : i < d.length) (hj : j < d.length) : List Ton := (d.set i d[j]).set j d[i]
theorem swap_adj (P Q : List Ton) (s x : Ton) (j : Nat) (hj : P.length + 1 = j) : ((P ++ s :: x :: Q).set j s).set (j - 1) x = P ++ x :: s :: Q := by
  subst hj
  rw [List.set_append_right _ _ (by omega), show P.length + 1 - P.length = 1 by omega, List.set_append_right _ _ (by omega), show P.length + 1 - 1 - P.length = 0 by omega]
  rfl

end Go.Proofs.Ythnnjjcopehccaa
