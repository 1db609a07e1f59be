/- Contracts of staying and of ValidChange of the program. -/
import Derived.Test.YtgdfecnpkjnhnaaDoorChange
set_option linter.unusedSimpArgs false
set_option linter.unnecessarySimpa false
set_option linter.unusedVariables false
set_option maxRecDepth 100000
namespace Go.Proofs.YtgdfecnpkjnhnaaDoor
open Go.RowKit

set_option maxHeartbeats 4000000 in
theorem staying_any (s : ByteArray) (n : Int) (w : World) (hs : s.size ≤ maxLen) (hn : I64 n) :
    Calls Tryd.prog 63 #[.string s, .int .i64 n] w fun e w' => ∃ v, e = .returned (.tuple #[v, .bool (stayB s n)]) ∧ OwnInts w.heap.size w'.heap.size w' v (stayV s n) ∧ Below w.heap.size w w' := by
  unfold maxLen at hs
  have hnb := hn.bd
  by_cases h0 : s.size = 0
  · obtain ⟨e1, e2⟩ := stay_empty (n := n) h0
    have n1 : s.toList = [] := str_empty h0
    have E1 := Lib.hid e1; have E2 := Lib.hid e2; clear e1 e2
    go_enter Tryd.func63, Tryd.ntmps63
    go_wp2
    go_ret2
    exact ⟨_, by rw [E2.out]; rfl, by rw [E1.out]; exact OwnInts.nil _ _ _, Below.refl _ _⟩
  have n1 : s.toList.isEmpty = false := str_nonempty (by omega)
  have n2 : (s.toList == []) = false := by cases hl : s.toList with
    | nil => rw [hl] at n1; cases n1
    | cons a l => rfl
  have n3 : ¬ s.toList = [] := by intro e; rw [e] at n1; cases n1
  by_cases hx : s = xB
  · obtain ⟨e1, e2⟩ := stay_x (n := n) hx
    have bx : (s.toList != [120]) = false := by rw [str_xn]; simpa using hx
    have bx2 : (s.toList == [120]) = true := by rw [str_x]; simpa using hx
    have tw := tm_wrap n
    have wn : IntKind.i64.wrap n = n := IntWalk.i64_in _ (by omega)
    have E1 := Lib.hid e1; have E2 := Lib.hid e2; clear e1 e2 hx
    go_enter Tryd.func63, Tryd.ntmps63
    go_wp2
    go_ret2
    exact ⟨_, by rw [E2.out]; rfl, by rw [E1.out]; exact OwnInts.nil _ _ _, Below.refl _ _⟩
  have bx : (s.toList != [120]) = true := by rw [str_xn]; simpa using hx
  have bx2 : (s.toList == [120]) = false := by rw [str_x]; simpa using hx
  have HX := Lib.hid hx; have HZ := Lib.hid h0; clear hx h0 hnb
  have hconv := run_bytes_of_string (P := Tryd.prog) w 9 82 5 s Tryd.underlying9 Tryd.underlying82 Tryd.underlying5
  have hz : s.size ≤ grownCap w s.size 0 5 := grownCap_ge w _ _ _
  have hcell : ∀ k, k < s.size → (w.drew.alloc (.cells (bytesRow s (grownCap w s.size 0 5)) 5 ((bytesRow s (grownCap w s.size 0 5)).size, (bytesRow s (grownCap w s.size 0 5)).size + 1))).cell? ⟨w.heap.size, k, none⟩ = some (.int .u8 (byteAt s k)) := fun k hk => by
    rw [byteAt_eq s k hk]
    exact (World.cell?_alloc_mark _ _ _ _ k).trans (bytesRow_at s _ k hk)
  have HC := Lib.hid hcell; clear hcell
  generalize grownCap w s.size 0 5 = cap at hconv hz HC
  generalize (bytesRow s cap) = row at hconv HC
  go_enter Tryd.func63, Tryd.ntmps63
  go_wp2_with fail
  go_loopw [6, 7, 18, 9, 10] (fun o l i _ _ wr => ∃ (k : Nat) (ps : List Int) (last : Int) (a' : Option Addr) (c' : Nat), k ≤ s.size ∧ i = .int .i64 (k : Int) ∧ l = .int .i64 last ∧ o = .slice a' k c' ∧ plTo s n k = some (ps, last) ∧ wr.ownsRow (w.heap.size + 1) 2 1 (.slice a' k c') k (ps.map (Value.int .i64)) ∧ (∀ k, k < s.size → wr.cell? ⟨w.heap.size, k, none⟩ = some (.int .u8 (byteAt s k))) ∧ Below w.heap.size w wr ∧ w.heap.size + 1 ≤ wr.heap.size) (fun _ _ i _ _ _ => s.size - (intOf i).toNat)
  case atStart => exact ⟨0, [], 0, none, 0, Nat.zero_le _, by go_num, rfl, rfl, rfl, by simpa using owns_nil _ _ _ _, HC.out, ((Below.refl _ _).drew).alloc (Nat.le_refl _) _, by simp⟩
  case round =>
    clear hconv HC
    obtain ⟨k, ps, last, a', c', hk, rfl, rfl, rfl, hp, ho, hcl, hb, hzr⟩ := hrel
    have HO := Lib.hid ho; have HP := Lib.hid hp; have HC2 := Lib.hid hcl; clear ho
    obtain ⟨_, l0, l12, _⟩ := pl_len k hp
    have hk12 := pl_short k hp
    clear hp
    by_cases hlt : k < s.size
    · have hck := hcl k hlt
      clear hcl
      have hv := val_bd (byteAt s k)
      obtain ⟨b0, b255⟩ := byteAt_bd s k
      have hix := val_index b0 b255
      obtain ⟨v, hvv⟩ : ∃ v, v = valN (byteAt s k) := ⟨_, rfl⟩
      have HV := Lib.hid hvv
      rw [← hvv] at hv hix
      obtain ⟨v0, v12⟩ := hv
      have IX := Lib.hid (show Lib.indexByte signB.data.toList (byteAt s k).toNat.toUInt8 = v - 1 by omega)
      generalize byteAt s k = c at hck IX
      have w0' : IntKind.i64.wrap v = v := IntWalk.i64_in _ (by omega)
      have w1' : IntKind.i64.wrap (v - last) = v - last := IntWalk.i64_in _ (by omega)
      have w2' : IntKind.i64.wrap ((v - last).tmod 2) = (v - last).tmod 2 := tm_wrap _
      clear hvv hix
      by_cases c1 : v ≤ last
      · have d1 : decide (v ≤ last) = true := by simpa using c1
        obtain ⟨e1, e2⟩ := stay_none HX.out (pl_none (pl_bad HP.out (by rw [← HV.out]; exact .inl c1)) s.size (by omega))
        have E1 := Lib.hid e1; have E2 := Lib.hid e2; clear e1 e2 c1
        go_wp2_with fail
        refine (Tryd.strings_IndexByte signB c _).mono ?_
        rintro e w1 ⟨rfl, rfl⟩
        rw [IX.out]
        go_wp2
        go_ret2
        exact ⟨_, by rw [E2.out]; rfl, by rw [E1.out]; exact OwnInts.nil _ _ _, hb⟩
      have d1 : decide (v ≤ last) = false := by simpa using c1
      by_cases c2 : n < v
      · have d2 : decide (n < v) = true := by simpa using c2
        obtain ⟨e1, e2⟩ := stay_none HX.out (pl_none (pl_bad HP.out (by rw [← HV.out]; exact .inr (.inl c2))) s.size (by omega))
        have E1 := Lib.hid e1; have E2 := Lib.hid e2; clear e1 e2 c1 c2
        go_wp2_with fail
        refine (Tryd.strings_IndexByte signB c _).mono ?_
        rintro e w1 ⟨rfl, rfl⟩
        rw [IX.out]
        go_wp2
        go_ret2
        exact ⟨_, by rw [E2.out]; rfl, by rw [E1.out]; exact OwnInts.nil _ _ _, hb⟩
      have d2 : decide (n < v) = false := by simpa using c2
      by_cases c3 : (v - last).tmod 2 = 0
      · have d3 : ((v - last).tmod 2 == 0) = true := by simpa using c3
        obtain ⟨e1, e2⟩ := stay_none HX.out (pl_none (pl_bad HP.out (by rw [← HV.out]; exact .inr (.inr c3))) s.size (by omega))
        have E1 := Lib.hid e1; have E2 := Lib.hid e2; clear e1 e2 c1 c2 c3
        go_wp2_with fail
        refine (Tryd.strings_IndexByte signB c _).mono ?_
        rintro e w1 ⟨rfl, rfl⟩
        rw [IX.out]
        go_wp2
        go_ret2
        exact ⟨_, by rw [E2.out]; rfl, by rw [E1.out]; exact OwnInts.nil _ _ _, hb⟩
      have d3 : ((v - last).tmod 2 == 0) = false := by simpa using c3
      have HG := Lib.hid (pl_good HP.out (show ¬ badP (valN (byteAt s k)) last n by rw [← HV.out]; unfold badP; rintro (h | h | h); exact c1 h; exact c2 h; exact c3 h))
      clear c1 c2 c3
      go_wp2_with fail
      refine (Tryd.strings_IndexByte signB c _).mono ?_
      rintro e w1 ⟨rfl, rfl⟩
      rw [IX.out]
      go_wp2_with (at_builtin; refine append_one rfl _ _ 63 rfl (w.heap.size + 1) 2 (.int .i64 0) 1 8 Tryd.underlying63 info_int rfl (by decide) _ k _ rfl HO.out [.int .i64 v] rfl (by simp [Value.oneCell']) rfl (by omega) (by decide) (by omega) ?_)
      intro a5 c5 w5 ho5 _ hb5
      have HO5 := Lib.hid ho5; have HB5 := Lib.hid (hb.trans (hb5.mono (by omega)))
      have HC5 := Lib.hid (show ∀ k, k < s.size → w5.cell? ⟨w.heap.size, k, none⟩ = some (.int .u8 (byteAt s k)) from fun k hk => cellL hb5 (by simp) (HC2.out k hk))
      have hz5 := hb5.size
      clear ho5 hb5 d1 d2 d3 w0' w1' w2'
      go_wp2
      go_roundw
      case rel => exact ⟨k + 1, ps ++ [v], v, a5, c5, by omega, by go_num, rfl, rfl, by rw [HG.out, ← HV.out], by rw [List.map_append]; exact HO5.out, HC5.out, HB5.out, by omega⟩
      case measure => simp [intOf] <;> omega
    · obtain rfl : k = s.size := by omega
      obtain ⟨e1, e2⟩ := stay_some HX.out HP.out HZ.out
      have tw := tm_wrap (wrap64 (n - last))
      have hln := (pl_len s.size HP.out).1
      have E1 := Lib.hid e1; have E2 := Lib.hid e2; clear e1 e2
      go_wp2
      go_ret2
      exact ⟨_, by rw [E2.out]; rfl, by rw [E1.out]; exact OwnInts.mk' (by rw [hln]; exact owns_base HO.out (by omega)), hb⟩

set_option maxHeartbeats 1000000 in
theorem implValidChange_any (s : ByteArray) (n : Int) (w : World) (hs : s.size ≤ 1048576) (hn : I64 n) :
    Calls Tryd.prog 31 #[.string s, .int .i64 n] w fun e w' => e = .returned (.bool (changeB s n)) ∧ Below w.heap.size w w' := by
  cases hb : stayB s n
  · have HX := Lib.hid (show changeB s n = false by unfold changeB; rw [hb]; simp)
    have HB := Lib.hid hb; clear hb
    go_enter Tryd.func31, Tryd.ntmps31
    go_wp2_with fail
    refine (staying_any s n _ (by unfold maxLen; omega) hn).mono ?_
    rw [HB.out]
    rintro e w2 ⟨v, rfl, ho, hb⟩
    obtain ⟨a2, c2, rfl⟩ := ho.form
    go_wp2
    go_ret
    exact ⟨ret_bool HX.out.symm, hb⟩
  · by_cases h : stage n
    · have HX := Lib.hid (show changeB s n = true by rw [ch_yes h, hb])
      have H := Lib.hid (yesB h)
      have HB := Lib.hid hb; clear hb h
      go_enter Tryd.func31, Tryd.ntmps31
      go_wp2_with fail
      refine (staying_any s n _ (by unfold maxLen; omega) hn).mono ?_
      rw [HB.out]
      rintro e w2 ⟨v, rfl, ho, hb⟩
      obtain ⟨a2, c2, rfl⟩ := ho.form
      go_wp2_with fail
      refine (isStage_any true _ _ H.out).mono ?_
      rintro e w3 ⟨rfl, rfl⟩
      go_wp2
      go_ret
      exact ⟨ret_bool HX.out.symm, hb⟩
    · have HX := Lib.hid (show changeB s n = false from ch_no h)
      have H := Lib.hid (noB h)
      have HB := Lib.hid hb; clear hb h
      go_enter Tryd.func31, Tryd.ntmps31
      go_wp2_with fail
      refine (staying_any s n _ (by unfold maxLen; omega) hn).mono ?_
      rw [HB.out]
      rintro e w2 ⟨v, rfl, ho, hb⟩
      obtain ⟨a2, c2, rfl⟩ := ho.form
      go_wp2_with fail
      refine (isStage_any false _ _ H.out).mono ?_
      rintro e w3 ⟨rfl, rfl⟩
      go_wp2
      go_ret
      exact ⟨ret_bool HX.out.symm, hb⟩


end Go.Proofs.YtgdfecnpkjnhnaaDoor
