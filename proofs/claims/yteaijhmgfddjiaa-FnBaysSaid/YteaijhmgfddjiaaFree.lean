/- CheckBays, FreeFrom, StripTime of the program; b10Kinds of the laws. -/
import Derived.Test.YteaijhmgfddjiaaBayF
import Derived.Test.YteaijhmgfddjiaaFnBaysL
set_option linter.unusedSimpArgs false
set_option linter.unnecessarySimpa false
set_option linter.unusedVariables false
set_option maxRecDepth 100000
namespace Go.Proofs.Yteaijhmgfddjiaa
open Go.RowKit

def GoodTo (bays : List BayD) (list : List CasD) (pl : List Int) (n : Nat) : Prop := ∀ k, k < n → ∃ b : Nat, b < bays.length ∧ pl.getD k 0 = (b : Int) ∧ canP bays list (pl.take k) k b
theorem goodTo_step {bays : List BayD} {list : List CasD} {pl : List Int} {n b : Nat} (h : GoodTo bays list pl n) (h1 : b < bays.length) (h2 : pl.getD n 0 = (b : Int)) (h3 : canP bays list (pl.take n) n b) : GoodTo bays list pl (n + 1) := fun k hk => by
  by_cases e : k = n
  · subst e; exact ⟨b, h1, h2, h3⟩
  · exact h k (by omega)
def PosOk (bays : List BayD) (list : List CasD) (pl : List Int) : Prop := pl.length = list.length ∧ Good bays list pl

set_option maxHeartbeats 1000000 in
theorem arePossible_any (r : Bool) (vb vl vp : Value) (bays : List BayD) (list : List CasD) (pl : List Int) (w : World) (hb : RdBayDs w vb bays) (hl : RdCasDs w vl list) (hp : Ints w vp pl) (ok : ∀ x ∈ list, casOk x) (lb : bays.length ≤ 8) (h : r = true ↔ PosOk bays list pl) :
    Calls Try.prog 37 #[vb, vl, vp] w fun e w' => e = .returned (.bool r) ∧ Below w.heap.size w w' := by
  obtain ⟨a1, c1, rfl, m1⟩ := hb.form'
  obtain ⟨a2, c2, rfl, m2⟩ := hl.form'
  obtain ⟨a3, c3, rfl, q1, q2, _⟩ := id hp
  have m3 : pl.length ≤ maxLen := by omega
  unfold maxLen at m1 m2 m3 q2
  have HOK := Lib.hid ok; clear ok
  by_cases hlen : pl.length = list.length
  · have H := Lib.hid (show r = true ↔ GoodTo bays list pl pl.length from h.trans ⟨fun h => h.2, fun h => ⟨hlen, h⟩⟩)
    have d0 : ((pl.length : Int) != (list.length : Int)) = false := by simp; omega
    have HL := Lib.hid hlen
    clear h hlen
    go_enter Try.func37, Try.ntmps37
    go_wp2_with fail
    go_loopw [16] (fun i wr => ∃ j : Nat, j ≤ pl.length ∧ i = .int .i64 j ∧ GoodTo bays list pl j ∧ Below w.heap.size w wr) (fun i _ => pl.length - (intOf i).toNat)
    case atStart => exact ⟨0, Nat.zero_le _, by go_num, fun j hj => absurd hj (by omega), Below.refl _ _⟩
    case round =>
      obtain ⟨j, hj, rfl, hc, hbw⟩ := hrel
      have HC := Lib.hid hc; clear hc
      by_cases hlt : j < pl.length
      · obtain ⟨b3, o3, rfl, cp⟩ := (hp.mono hbw).cells (by simp; omega)
        have p0 : wr.cell? ⟨b3, o3 + j, none⟩ = some (.int .i64 pl[j]) := cp j _ (by simp [hlt])
        clear cp
        have hj2 : j < list.length := by have := HL.out; omega
        have wr1 : IntKind.i64.wrap ((bays.length : Int) - 1) = (bays.length : Int) - 1 := IntWalk.i64_in _ (by omega)
        have hD : pl.getD j 0 = pl[j] := getD_int hlt
        have HD := Lib.hid hD; clear hD
        by_cases g : 0 ≤ pl[j] ∧ pl[j] ≤ (bays.length : Int) - 1
        · have HG := Lib.hid (yesB g)
          obtain ⟨b, hb'⟩ : ∃ b : Nat, pl[j] = b := ⟨pl[j].toNat, by omega⟩
          have hbl : b < bays.length := by omega
          rw [hb'] at p0
          have HBB := Lib.hid hb'
          have j1 : j ≤ c3 := by omega
          clear hb' g
          by_cases gc : canP bays list (pl.take j) j b
          · have HGC := Lib.hid gc
            clear gc
            go_wp2_with fail
            refine (sizeB_any _ _ _ _).mono ?_
            rintro e w1 ⟨rfl, rfl⟩
            go_wp2_with fail
            refine (within_any true _ _ _ _ (by rw [← HBB.out]; exact HG.out)).mono ?_
            rintro e w2 ⟨rfl, rfl⟩
            go_wp2_with fail
            refine (canBe_any true _ _ _ bays list (pl.take j) j b _ (hb.mono hbw) (hl.mono hbw) (ints_take (hp.mono hbw) (by omega)) HOK.out (by rw [List.length_take]; omega) hj2 hbl ⟨fun _ => HGC.out, fun _ => rfl⟩).mono ?_
            rintro e w3 ⟨rfl, hb3⟩
            have hbw3 := hbw.trans (hb3.mono hbw.size)
            clear hb3 p0
            go_wp2
            go_roundw
            case rel => exact ⟨j + 1, by omega, by go_num, goodTo_step HC.out hbl (by rw [HD.out, HBB.out]) HGC.out, hbw3⟩
            case measure => simp [intOf]; omega
          · have HR := Lib.hid (show r = false by
              cases hr : r
              · rfl
              · obtain ⟨b', g1, g2, g3⟩ := H.out.1 hr j hlt
                rw [HD.out, HBB.out] at g2
                obtain rfl : b = b' := by omega
                exact absurd g3 gc)
            have HGC := Lib.hid gc
            clear gc
            go_wp2_with fail
            refine (sizeB_any _ _ _ _).mono ?_
            rintro e w1 ⟨rfl, rfl⟩
            go_wp2_with fail
            refine (within_any true _ _ _ _ (by rw [← HBB.out]; exact HG.out)).mono ?_
            rintro e w2 ⟨rfl, rfl⟩
            go_wp2_with fail
            refine (canBe_any false _ _ _ bays list (pl.take j) j b _ (hb.mono hbw) (hl.mono hbw) (ints_take (hp.mono hbw) (by omega)) HOK.out (by rw [List.length_take]; omega) hj2 hbl ⟨(fun h => by cases h), fun h => absurd h HGC.out⟩).mono ?_
            rintro e w3 ⟨rfl, hb3⟩
            have hbw3 := hbw.trans (hb3.mono hbw.size)
            clear hb3 p0
            go_wp2
            go_ret
            exact ⟨ret_bool HR.out.symm, hbw3⟩
        · have HR := Lib.hid (show r = false by
            cases hr : r
            · rfl
            · obtain ⟨b', g1, g2, g3⟩ := H.out.1 hr j hlt
              rw [HD.out] at g2
              exact absurd (show 0 ≤ pl[j] ∧ pl[j] ≤ (bays.length : Int) - 1 by omega) g)
          have HG := Lib.hid (noB g)
          clear g
          go_wp2_with fail
          refine (sizeB_any _ _ _ _).mono ?_
          rintro e w1 ⟨rfl, rfl⟩
          go_wp2_with fail
          refine (within_any false _ _ _ _ HG.out).mono ?_
          rintro e w2 ⟨rfl, rfl⟩
          go_wp2
          go_ret
          exact ⟨ret_bool HR.out.symm, hbw⟩
      · obtain rfl : j = pl.length := by omega
        have HR := Lib.hid (H.out.2 HC.out)
        go_wp2
        go_ret
        exact ⟨ret_bool HR.out.symm, hbw⟩
  · have HR := Lib.hid (show r = false by
      cases hr : r
      · rfl
      · exact absurd (h.1 hr).1 hlen)
    have d0 : ((pl.length : Int) != (list.length : Int)) = true := by simp; omega
    clear h hlen
    go_enter Try.func37, Try.ntmps37
    go_wp2
    go_ret
    exact ⟨ret_bool HR.out.symm, Below.refl _ _⟩

set_option maxHeartbeats 1000000 in
theorem CheckBays_yes (vb vl vp : Value) (bays : List BayD) (list : List CasD) (pl : List Int) (w : World) (hb : RdBayDs w vb bays) (ob : okBayDs bays) (hl : RdCasDs w vl list) (ol : okCasDs list) (hp : Ints w vp pl) (h1 : BaysOk bays) (h2 : CassOk list) (h : PosOk bays list pl) :
    Calls Try.prog 10 #[vb, vl, vp] w fun e w' => e = .returned (.bool true) ∧ Below w.heap.size w w' := by
  have P1 := ValidBays_any vb bays w hb ob
  rw [baysB_iff.2 h1] at P1
  obtain ⟨a1, c1, rfl, m1⟩ := hb.form'
  obtain ⟨a2, c2, rfl, m2⟩ := hl.form'
  obtain ⟨a3, c3, rfl, _⟩ := id hp
  have HB := Lib.hid h1; have HC := Lib.hid h2; have HP := Lib.hid h
  clear h1 h2 h
  go_enter Try.func10, Try.ntmps10
  go_wp2_with fail
  refine P1.mono ?_
  rintro e w1 ⟨rfl, hb1⟩
  go_wp2_with fail
  refine (ValidCastings_any _ list _ (hl.mono hb1) ol).mono ?_
  rintro e w2 ⟨rfl, hb2⟩
  have hbw2 := hb1.trans (hb2.mono hb1.size)
  clear hb2
  rw [cassB_iff.2 HC.out]
  go_wp2_with fail
  refine (arePossible_any true _ _ _ bays list pl _ (hb.mono hbw2) (hl.mono hbw2) (hp.mono hbw2) HC.out.mem HB.out.len ⟨fun _ => HP.out, fun _ => rfl⟩).mono ?_
  rintro e w3 ⟨rfl, hb3⟩
  go_wp2
  go_ret
  exact ⟨rfl, hbw2.trans (hb3.mono hbw2.size)⟩

set_option maxHeartbeats 1000000 in
theorem StripTime_yes (x : CasD) (w : World) (ok : casOk x) (hs : x.bell.size ≤ maxLen) :
    Calls Try.prog 14 #[.agg #[.string x.bell, .int .i64 x.radius, .int .i64 x.depth, .int .i64 x.thick, .int .i64 x.since]] w fun e w' => e = .returned (.tuple #[.int .i64 (stripV x), .int .i64 0]) ∧ Below w.heap.size w w' := by
  obtain ⟨o, ho⟩ : ∃ o, o = stripV x := ⟨_, rfl⟩
  rw [← ho]
  have HO := Lib.hid ho; have OK := Lib.hid ok
  clear ho ok
  go_enter Try.func14, Try.ntmps14
  go_wp2_with fail
  have hbA : Below w.heap.size w (w.alloc (Obj.cells #[.string x.bell, .int .i64 x.radius, .int .i64 x.depth, .int .i64 x.thick, .int .i64 x.since] 41)) := by (repeat (first | with_reducible exact Below.refl _ _ | with_reducible exact hbw | (with_reducible refine Below.setCell ?_ ?_ _; rotate_left; · first | exact Nat.le_refl _ | omega | (simp; done) | (simp; omega)) | (with_reducible refine Below.alloc ?_ ?_ _; rotate_left; · first | exact Nat.le_refl _ | omega | (simp; done) | (simp; omega)) | with_reducible refine below_drewN ?_ _ | with_reducible refine Below.drew ?_))
  refine (validCasting_any true x _ ⟨fun _ => OK.out, fun _ => rfl⟩ hs).mono ?_
  rintro e w1 ⟨rfl, hb1⟩
  have hB := (Box.alloc w [.string x.bell, .int .i64 x.radius, .int .i64 x.depth, .int .i64 x.thick, .int .i64 x.since] 41 _ rfl).mono hb1
  have c0 := hB.at' 0 _ rfl
  have c1 := hB.at' 1 _ rfl
  have c2 := hB.at' 2 _ rfl
  have c3 := hB.at' 3 _ rfl
  have c4 := hB.at' 4 _ rfl
  have l0 := hB.lt
  have hbw1 := hbA.trans (hb1.mono hbA.size)
  clear hB hb1 hbA
  go_wp2_with fail
  refine (stripTime_any o x _ OK.out HO.out).mono ?_
  rintro e w2 ⟨rfl, hb2⟩
  go_wp2
  go_ret2
  exact ⟨rfl, hbw1.trans (hb2.mono hbw1.size)⟩

end Go.Proofs.Yteaijhmgfddjiaa
