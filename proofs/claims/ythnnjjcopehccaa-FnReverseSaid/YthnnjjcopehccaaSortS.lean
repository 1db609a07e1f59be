/- Contract of SortStableFunc at tones, on a row of the call's own. -/
import Derived.Test.YthnnjjcopehccaaStable
set_option linter.unusedSimpArgs false
set_option linter.unnecessarySimpa false
set_option linter.unusedVariables false
set_option maxRecDepth 100000
namespace Go.Proofs.Ythnnjjcopehccaa
open Go.RowKit

set_option maxHeartbeats 400000 in
theorem insS_nil (w : World) :
    Calls Try.prog 29 #[.slice none 0 0, .int .i64 0, .int .i64 0, .func (.func 18) #[] #[]] w fun e w' => e = .returned (.tuple #[]) ∧ w' = w := by
  go_enter Try.func29, Try.ntmps29
  go_wp2_with fail
  go_loopw [8] (fun i wr => i = .int .i64 1 ∧ wr = w) (fun i _ => 0)
  case atStart => exact ⟨rfl, rfl⟩
  case round =>
    obtain ⟨rfl, rfl⟩ := hrel
    go_wp2
    go_end0
    exact ⟨rfl, rfl⟩

set_option maxHeartbeats 400000 in
theorem stable_nil (w : World) :
    Calls Try.prog 28 #[.slice none 0 0, .int .i64 0, .func (.func 18) #[] #[]] w fun e w' => e = .returned (.tuple #[]) ∧ w' = w := by
  go_enter Try.func28, Try.ntmps28
  go_wp2_with fail
  go_loopw [7, 8] (fun i j wr => i = .int .i64 0 ∧ j = .int .i64 20 ∧ wr = w) (fun i j _ => 0)
  case atStart => exact ⟨rfl, rfl, rfl⟩
  case round =>
    obtain ⟨rfl, rfl, rfl⟩ := hrel
    go_wp2_with fail
    refine (insS_nil _).mono ?_
    rintro e w1 ⟨rfl, rfl⟩
    go_wp2_with fail
    go_loopw [6] (fun i w2 => i = .int .i64 20 ∧ w2 = w1) (fun i _ => 0)
    case atStart => exact ⟨rfl, rfl⟩
    case round =>
      obtain ⟨rfl, rfl⟩ := hrel
      go_wp2
      go_end0
      exact ⟨rfl, rfl⟩

set_option maxHeartbeats 400000 in
theorem sortS_any (base E n : Nat) (v : Value) (d : List Ton) (w : World) (h : OwnRow base E w 30 3 v n (d.flatMap Ton.cells)) (hd : d.length = n) (hn : n ≤ 1000000) :
    Calls Try.prog 26 #[v, .func (.func 18) #[] #[]] w fun e w' => e = .returned (.tuple #[]) ∧ (∃ d', d'.Perm d ∧ Srt d' ∧ OwnRow base E w' 30 3 v n (d'.flatMap Ton.cells)) ∧ Touch base E w w' := by
  have h2 := h.2
  rcases h.1.2 with ⟨rfl, rfl⟩ | ⟨g, cap, cur, rfl, hbg, hgg, hrest⟩
  · have e0 : d = [] := List.eq_nil_of_length_eq_zero hd
    subst e0
    go_enter Try.func26, Try.ntmps26
    go_wp2_with fail
    refine (stable_nil _).mono ?_
    rintro e w1 ⟨rfl, rfl⟩
    go_wp2
    go_end0
    exact ⟨rfl, ⟨[], List.Perm.refl _, srt_nil, h⟩, Touch.refl _ _ _⟩
  · have HT : TR w base g n cap d := ⟨hd, h.1⟩
    have HG := Lib.hid (h2 g rfl); clear h2
    have HD := Lib.hid hd; clear hd
    go_enter Try.func26, Try.ntmps26
    go_wp2_with fail
    refine (stable_any base g n cap d _ HT hn).mono ?_
    rintro e w1 ⟨rfl, ⟨d', p1, s1, hT1⟩, hg1⟩
    have P1 := Lib.hid p1; have S1 := Lib.hid s1; have T1 := Lib.hid hT1; have G1 := Lib.hid hg1; clear p1 s1 hT1 hg1
    go_wp2
    go_end0
    exact ⟨rfl, ⟨d', P1.out, S1.out, T1.out.2, h.2⟩, Touch.of_grown G1.out (by intro g' hg'; cases hg'; exact ⟨hbg, HG.out⟩)⟩

end Go.Proofs.Ythnnjjcopehccaa
