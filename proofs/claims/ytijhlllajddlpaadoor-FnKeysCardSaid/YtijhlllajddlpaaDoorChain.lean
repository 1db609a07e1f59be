/- Levers one behind the other: plain. -/
import Derived.Test.YtijhlllajddlpaaDoorValidAct
import Derived.Test.YtijhlllajddlpaaDoorNear
set_option linter.unusedSimpArgs false
set_option linter.unnecessarySimpa false
set_option linter.unusedVariables false
namespace Go.Proofs.YtijhlllajddlpaaDoor
open Go.RowKit

/-- What comes out behind the levers; -1 where it becomes more than M on the way. -/
def chain (M : Int) : List Lev → Int → Int
  | [], u => u
  | l :: r, u => if M < near (u * l.out) l.inn then -1 else chain M r (near (u * l.out) l.inn)

theorem chain_drop {M : Int} {ls : List Lev} {k : Nat} (hk : k < ls.length) (u : Int) :
    chain M (ls.drop k) u = if M < near (u * ls[k].out) ls[k].inn then -1 else chain M (ls.drop (k + 1)) (near (u * ls[k].out) ls[k].inn) := by
  rw [List.drop_eq_getElem_cons hk]; rfl
theorem chain_end {M : Int} {ls : List Lev} {k : Nat} (hk : ls.length ≤ k) (u : Int) : chain M (ls.drop k) u = u := by
  rw [List.drop_eq_nil_of_le hk]; rfl
theorem chain_take {M : Int} {ls : List Lev} {k : Nat} (hk : k < ls.length) (u : Int) :
    chain M (ls.take (k + 1)).reverse u = if M < near (u * ls[k].out) ls[k].inn then -1 else chain M (ls.take k).reverse (near (u * ls[k].out) ls[k].inn) := by
  rw [List.take_succ_eq_append_getElem hk, List.reverse_append]; rfl
theorem mul_bd {u o U : Int} (h0 : 0 ≤ u) (h1 : u ≤ U) (h2 : arm o) (hU : U ≤ 1000000000000) : 0 ≤ u * o ∧ u * o ≤ 100000000000000000 := by
  obtain ⟨h3, h4⟩ := h2
  refine ⟨Int.mul_nonneg h0 (by omega), Int.le_trans (Int.mul_le_mul (Int.le_trans h1 hU) h4 (by omega) (by omega)) (by omega)⟩
theorem chain_in {M : Int} : ∀ (ls : List Lev) (u : Int), armsOk ls → 0 ≤ u → u ≤ M → chain M ls u = -1 ∨ (0 ≤ chain M ls u ∧ chain M ls u ≤ M)
  | [], u, _, h0, h1 => .inr ⟨h0, h1⟩
  | l :: r, u, ha, h0, h1 => by
    have hl := ha l (by simp)
    unfold arm at hl
    have hn : 0 ≤ near (u * l.out) l.inn := near_nonneg (Int.mul_nonneg h0 (by omega)) (by omega)
    unfold chain
    split
    · exact .inl rfl
    · exact chain_in r _ (fun x hx => ha x (by simp [hx])) hn (by omega)
theorem chain_low {M : Int} : ∀ (ls : List Lev) (u : Int), armsOk ls → 0 ≤ u → chain M ls u = -1 ∨ 0 ≤ chain M ls u
  | [], u, _, h0 => .inr h0
  | l :: r, u, ha, h0 => by
    have hl := ha l (by simp)
    unfold arm at hl
    have hn : 0 ≤ near (u * l.out) l.inn := near_nonneg (Int.mul_nonneg h0 (by omega)) (by omega)
    unfold chain
    split
    · exact .inl rfl
    · exact chain_low r _ (fun x hx => ha x (by simp [hx])) hn
theorem chain_mono {M : Int} : ∀ (ls : List Lev) (u v : Int), armsOk ls → 0 ≤ u → u ≤ v → chain M ls v = -1 ∨ (chain M ls u ≠ -1 ∧ chain M ls u ≤ chain M ls v)
  | [], u, v, _, h0, h1 => .inr ⟨by unfold chain; omega, h1⟩
  | l :: r, u, v, ha, h0, h1 => by
    have hl := ha l (by simp)
    unfold arm at hl
    have hn : near (u * l.out) l.inn ≤ near (v * l.out) l.inn := near_mono (Int.mul_nonneg h0 (by omega)) (Int.mul_le_mul_of_nonneg_right h1 (by omega)) (by omega)
    have h2 : 0 ≤ near (u * l.out) l.inn := near_nonneg (Int.mul_nonneg h0 (by omega)) (by omega)
    unfold chain
    split
    · exact .inl rfl
    · rw [if_neg (by omega)]
      exact chain_mono r _ _ (fun x hx => ha x (by simp [hx])) h2 hn
theorem armsOk.at {ls : List Lev} (h : armsOk ls) {k : Nat} (hk : k < ls.length) : arm ls[k].inn ∧ arm ls[k].out := h _ (List.getElem_mem hk)
theorem armsOk.rev {ls : List Lev} (h : armsOk ls) : armsOk ls.reverse := fun l hl => h l (by simpa using hl)

end Go.Proofs.YtijhlllajddlpaaDoor
