/- The reference's parts of a method. Contract of l27Split. -/
import Derived.Test.YtgdfecnpkjnhnaaDoorMethL
import Derived.Test.YtgdfecnpkjnhnaaDoorSplitS
import Derived.Test.YtgdfecnpkjnhnaaDoorStrEq
set_option linter.unusedSimpArgs false
set_option linter.unnecessarySimpa false
set_option linter.unusedVariables false
set_option maxRecDepth 100000
namespace Go.Proofs.YtgdfecnpkjnhnaaDoor
open Go.RowKit

theorem ms_x1 {l w : List UInt8} {o : Bool} (h : w ≠ []) : msM (120 :: l) w o = (msM l [] false).map (fun r => w :: [120] :: r) := by simp only [msM, if_true]; rw [if_pos h]
theorem ms_x2 {l : List UInt8} : msM (120 :: l) [] true = none := by simp [msM]
theorem ms_x3 {l : List UInt8} : msM (120 :: l) [] false = (msM l [] false).map (fun r => [120] :: r) := by simp [msM]
theorem ms_d1 {l : List UInt8} {o : Bool} : msM (46 :: l) [] o = none := by simp [msM]
theorem ms_d2 {l w : List UInt8} {o : Bool} (h : w ≠ []) : msM (46 :: l) w o = (msM l [] true).map (fun r => w :: r) := by simp [msM, h]
theorem ms_w {b : UInt8} {l w : List UInt8} {o : Bool} (h1 : b ≠ 120) (h2 : b ≠ 46) : msM (b :: l) w o = msM l (w ++ [b]) o := by simp [msM, h1, h2]
theorem map_two {α : Type} (o : Option (List α)) (ds : List α) (a : List α) : (o.map (fun r => a ++ r)).map (fun r => ds ++ r) = o.map (fun r => (ds ++ a) ++ r) := by
  rw [Option.map_map]; congr 1; funext r; simp
theorem byX : bytesB [120] = ⟨#[120]⟩ := rfl
theorem wd_empty (wd : List UInt8) : (bytesB wd).toList.isEmpty = decide (wd = []) := by
  rw [ByteArray.toList_eq, bytesB_list]; cases wd <;> simp
theorem wd_list (wd : List UInt8) : (bytesB wd).toList = wd := by rw [ByteArray.toList_eq, bytesB_list]

/-- What the reference's cutting answers. -/
def SplitM (l : List UInt8) (w : World) (e : Ending) (w' : World) : Prop :=
  ∃ (v : Value) (b : Bool), e = .returned (.tuple #[v, .bool b]) ∧ (b = true → Pcs w.heap.size w' v (mtL l) ∧ [] ∉ mtL l ∧ mtL l ≠ []) ∧ (b = false → [] ∈ mtL l ∨ mtL l = []) ∧ Below w.heap.size w w'
theorem SplitM.bad {l : List UInt8} {w w' : World} (h : msM l [] false = none) (hb : Below w.heap.size w w') : SplitM l w (.returned (.tuple #[.slice none 0 0, .bool false])) w' :=
  ⟨_, _, rfl, (fun h => by cases h), fun _ => .inl (ms_none h), hb⟩
theorem SplitM.good {l : List UInt8} {w w' : World} {ds : List (List UInt8)} {a : Option Addr} {k c : Nat} (h : msM l [] false = some ds) (hk : ds.length = k) (h0 : 0 < k) (ho : w'.ownsRow w.heap.size 9 1 (.slice a k c) k (ds.map fun p => Value.string (bytesB p))) (hb : Below w.heap.size w w') : SplitM l w (.returned (.tuple #[.slice a k c, .bool true])) w' := by
  obtain ⟨h1, h2⟩ := ms_some h
  subst hk
  refine ⟨_, _, rfl, fun _ => ⟨?_, h2, ?_⟩, (fun h => by cases h), hb⟩
  · rw [h1]; exact ⟨a, c, rfl, ho⟩
  · rw [h1]; intro e; rw [e] at h0; exact Nat.lt_irrefl 0 h0
theorem SplitM.none {l : List UInt8} {w w' : World} {v : Value} (h : msM l [] false = some []) (hb : Below w.heap.size w w') : SplitM l w (.returned (.tuple #[v, .bool false])) w' :=
  ⟨_, _, rfl, (fun h => by cases h), fun _ => .inr (ms_some h).1, hb⟩


set_option maxHeartbeats 4000000 in
theorem l27Split_any (s : ByteArray) (w : World) (hs : s.size ≤ 1048576) :
    Calls Tryd.prog 59 #[.string s] w (SplitM s.data.toList w) := by
  obtain ⟨l, hl⟩ : ∃ l, l = s.data.toList := ⟨_, rfl⟩
  have hsz : l.length = s.size := by rw [hl]; rfl
  have HL := Lib.hid hl
  have HSZ := Lib.hid hsz
  rw [← hl]
  clear hl hsz
  go_enter Tryd.func59, Tryd.ntmps59
  go_wp2_with fail
  go_loopw [4, 5, 6, 7] (fun o wv ov it wr => ∃ (i k : Nat) (ds : List (List UInt8)) (wd : List UInt8) (op : Bool) (a' : Option Addr) (c' : Nat), i ≤ s.size ∧ ds.length = k ∧ k ≤ 2 * i ∧ wd.length ≤ i ∧ o = .slice a' k c' ∧ wv = .string (bytesB wd) ∧ ov = .bool op ∧ it = .int .i64 (i : Int) ∧ msM l [] false = (msM (l.drop i) wd op).map (fun r => ds ++ r) ∧ wr.ownsRow w.heap.size 9 1 (.slice a' k c') k (ds.map fun p => Value.string (bytesB p)) ∧ Below w.heap.size w wr) (fun _ _ _ it _ => s.size - (intOf it).toNat)
  case atStart => exact ⟨0, 0, [], [], false, some ⟨w.heap.size, 0, none⟩, 0, Nat.zero_le _, rfl, Nat.le_refl _, Nat.le_refl _, rfl, rfl, rfl, by go_num, by simp, by simpa using owns_empty w 9 1 _ (Nat.le_refl _), by (repeat (first | with_reducible exact Below.refl _ _ | with_reducible exact hbw | (with_reducible refine Below.setCell ?_ ?_ _; rotate_left; · first | exact Nat.le_refl _ | omega | (simp; done) | (simp; omega)) | (with_reducible refine Below.alloc ?_ ?_ _; rotate_left; · first | exact Nat.le_refl _ | omega | (simp; done) | (simp; omega)) | with_reducible refine below_drewN ?_ _ | with_reducible refine Below.drew ?_))⟩
  case round =>
    obtain ⟨i, k, ds, wd, op, a', c', hi, hk, hki, hwi, rfl, rfl, rfl, rfl, hsp, ho, hb⟩ := hrel
    have HK := Lib.hid hk; have HSP := Lib.hid hsp; have HO := Lib.hid ho; have HB := Lib.hid hb
    have hz := hb.size
    clear hk hsp ho hb
    obtain ⟨bw, hbw⟩ : ∃ b, b = bytesB wd := ⟨_, rfl⟩
    have hem : bw.toList.isEmpty = decide (wd = []) := by rw [hbw, wd_empty]
    have hbs : bw.size = wd.length := by rw [hbw, bytesB_size]
    have HBW := Lib.hid hbw
    rw [← hbw]
    clear hbw
    by_cases hlt : i < s.size
    · have hil : i < l.length := by rw [HSZ.out]; exact hlt
      have hgi : s[i] = l[i] := by
        have := HL.out
        subst this
        rfl
      have hdr := List.drop_eq_getElem_cons hil
      obtain ⟨g, hg⟩ : ∃ g : Int, (s[i].toNat : Int) = g := ⟨_, rfl⟩
      by_cases hx : l[i] = 120
      · have dx : (g == 120) = true := by rw [← hg, hgi, hx]; rfl
        rw [hx] at hdr
        by_cases hw : wd = []
        · have de : bw.toList.isEmpty = true := by rw [hem]; simpa using hw
          subst hw
          clear hem hgi hx
          cases op
          · have HS1 := Lib.hid (show msM l [] false = (msM (l.drop (i + 1)) [] false).map (fun r => (ds ++ [[120]]) ++ r) by rw [HSP.out, hdr, ms_x3]; exact map_two _ ds [[120]])
            clear hdr
            go_wp2_with (at_builtin; refine append_one_at rfl _ _ 22 rfl w.heap.size 9 (.string ⟨#[]⟩) 1 16 Tryd.underlying22 info_string rfl (by decide) _ (k) _ rfl HO.out [.string ⟨#[120]⟩] rfl (by simp [Value.oneCell']) wr.heap.size rfl rfl (by omega) (by decide) (by omega) ?_)
            intro a7 c7 w7 ho7 hg7 hb7 _
            have HO7 := Lib.hid ho7
            have HB7 := Lib.hid (HB.out.trans hb7)
            have hz7 := HB7.out.size
            clear ho7 hg7 hb7
            go_wp2
            go_roundw
            case rel => exact ⟨i + 1, k + 1, ds ++ [[120]], [], false, a7, c7, by omega, by rw [List.length_append, HK.out]; rfl, by omega, by simp, rfl, rfl, rfl, by go_num, HS1.out, by rw [List.map_append]; exact HO7.out, HB7.out⟩
            case measure => simp [intOf] <;> omega
          · have HS1 := Lib.hid (show msM l [] false = none by rw [HSP.out, hdr, ms_x2]; rfl)
            clear hdr
            go_wp2
            go_ret2
            exact SplitM.bad HS1.out HB.out
        · have de : bw.toList.isEmpty = false := by rw [hem]; simpa using hw
          have HS1 := Lib.hid (show msM l [] false = (msM (l.drop (i + 1)) [] false).map (fun r => (ds ++ [wd, [120]]) ++ r) by rw [HSP.out, hdr, ms_x1 hw]; exact map_two _ ds [wd, [120]])
          clear hem hgi hx hdr hw
          go_wp2_with (at_builtin; refine append_one_at rfl _ _ 22 rfl w.heap.size 9 (.string ⟨#[]⟩) 1 16 Tryd.underlying22 info_string rfl (by decide) _ (k) _ rfl HO.out [.string bw] rfl (by simp [Value.oneCell']) wr.heap.size rfl rfl (by omega) (by decide) (by omega) ?_)
          intro a6 c6 w6 ho6 hg6 hb6 _
          have HO6 := Lib.hid ho6
          have HB6 := Lib.hid (HB.out.trans hb6)
          have hz6 := HB6.out.size
          clear ho6 hg6 hb6
          go_wp2_with (at_builtin; refine append_one_at rfl _ _ 22 rfl w.heap.size 9 (.string ⟨#[]⟩) 1 16 Tryd.underlying22 info_string rfl (by decide) _ (k + 1) _ rfl HO6.out [.string ⟨#[120]⟩] rfl (by simp [Value.oneCell']) w6.heap.size rfl rfl (by omega) (by decide) (by omega) ?_)
          intro a7 c7 w7 ho7 hg7 hb7 _
          have HO7 := Lib.hid ho7
          have HB7 := Lib.hid (HB6.out.trans hb7)
          have hz7 := HB7.out.size
          clear ho7 hg7 hb7
          go_wp2
          go_roundw
          case rel => exact ⟨i + 1, k + 1 + 1, ds ++ [wd, [120]], [], false, a7, c7, by omega, by rw [List.length_append, HK.out]; rfl, by omega, by simp, rfl, rfl, rfl, by go_num, HS1.out, by have := HO7.out; rw [HBW.out] at this; rw [List.map_append]; simpa [byX] using this, HB7.out⟩
          case measure => simp [intOf] <;> omega
      · have dx : (g == 120) = false := by
          rw [← hg, hgi]
          simp only [beq_eq_false_iff_ne, ne_eq]
          exact fun e => hx (UInt8.toNat_inj.1 (by have h1 : (120 : UInt8).toNat = 120 := rfl; omega))
        by_cases hd : l[i] = 46
        · have dd : (g == 46) = true := by rw [← hg, hgi, hd]; rfl
          rw [hd] at hdr
          by_cases hw : wd = []
          · have de : bw.toList.isEmpty = true := by rw [hem]; simpa using hw
            subst hw
            have HS1 := Lib.hid (show msM l [] false = none by rw [HSP.out, hdr, ms_d1]; rfl)
            clear hem hgi hx hdr hd
            go_wp2
            go_ret2
            exact SplitM.bad HS1.out HB.out
          · have de : bw.toList.isEmpty = false := by rw [hem]; simpa using hw
            have HS1 := Lib.hid (show msM l [] false = (msM (l.drop (i + 1)) [] true).map (fun r => (ds ++ [wd]) ++ r) by rw [HSP.out, hdr, ms_d2 hw]; exact map_two _ ds [wd])
            clear hem hgi hx hdr hw hd
            go_wp2_with (at_builtin; refine append_one_at rfl _ _ 22 rfl w.heap.size 9 (.string ⟨#[]⟩) 1 16 Tryd.underlying22 info_string rfl (by decide) _ (k) _ rfl HO.out [.string bw] rfl (by simp [Value.oneCell']) wr.heap.size rfl rfl (by omega) (by decide) (by omega) ?_)
            intro a7 c7 w7 ho7 hg7 hb7 _
            have HO7 := Lib.hid ho7
            have HB7 := Lib.hid (HB.out.trans hb7)
            have hz7 := HB7.out.size
            clear ho7 hg7 hb7
            go_wp2
            go_roundw
            case rel => exact ⟨i + 1, k + 1, ds ++ [wd], [], true, a7, c7, by omega, by rw [List.length_append, HK.out]; rfl, by omega, by simp, rfl, rfl, rfl, by go_num, HS1.out, by have := HO7.out; rw [HBW.out] at this; rw [List.map_append]; simpa [byX] using this, HB7.out⟩
            case measure => simp [intOf] <;> omega
        · have dd : (g == 46) = false := by
            rw [← hg, hgi]
            simp only [beq_eq_false_iff_ne, ne_eq]
            exact fun e => hd (UInt8.toNat_inj.1 (by have h1 : (46 : UInt8).toNat = 46 := rfl; omega))
          have HS1 := Lib.hid (show msM l [] false = (msM (l.drop (i + 1)) (wd ++ [l[i]]) op).map (fun r => ds ++ r) by rw [HSP.out, hdr, ms_w hx hd])
          have hsx : (s.extract i (i + 1)).size = 1 := by simp; omega
          have HX := Lib.hid (show bw ++ s.extract i (i + 1) = bytesB (wd ++ [l[i]]) by
            rw [HBW.out, extr s i (i + 1), ← HL.out, ← bytesB_app]
            congr 2
            rw [List.take_succ_eq_append_getElem hil, List.drop_append_of_le_length (by rw [List.length_take]; omega), List.drop_of_length_le (by rw [List.length_take]; omega)]; rfl)
          clear hem hgi hx hdr hd
          go_wp2
          go_roundw
          case rel => exact ⟨i + 1, k, ds, wd ++ [l[i]], op, a', c', by omega, HK.out, by omega, by simp; omega, rfl, by rw [← HX.out], rfl, by go_num, HS1.out, HO.out, HB.out⟩
          case measure => simp [intOf] <;> omega
    · obtain rfl : i = s.size := by omega
      have hnil : l.drop s.size = [] := List.drop_of_length_le (by rw [HSZ.out]; omega)
      by_cases hw : wd = []
      · have de : bw.toList.isEmpty = true := by rw [hem]; simpa using hw
        subst hw
        cases op
        · have HS1 := Lib.hid (show msM l [] false = some ds by rw [HSP.out, hnil]; simp [msM])
          clear hem hnil
          by_cases h0 : 0 < k
          · go_wp2
            go_ret2
            exact SplitM.good HS1.out HK.out h0 HO.out HB.out
          · have e : ds = [] := List.length_eq_zero_iff.1 (by have := HK.out; omega)
            subst e
            go_wp2
            go_ret2
            exact SplitM.none HS1.out HB.out
        · have HS1 := Lib.hid (show msM l [] false = none by rw [HSP.out, hnil]; simp [msM])
          clear hem hnil
          by_cases h0 : 0 < k
          · go_wp2
            go_ret2
            exact ⟨_, _, rfl, (fun h => by cases h), fun _ => .inl (ms_none HS1.out), HB.out⟩
          · go_wp2
            go_ret2
            exact ⟨_, _, rfl, (fun h => by cases h), fun _ => .inl (ms_none HS1.out), HB.out⟩
      · have de : bw.toList.isEmpty = false := by rw [hem]; simpa using hw
        have HS1 := Lib.hid (show msM l [] false = some (ds ++ [wd]) by rw [HSP.out, hnil]; simp [msM, hw])
        clear hem hnil hw
        go_wp2_with (at_builtin; refine append_one_at rfl _ _ 22 rfl w.heap.size 9 (.string ⟨#[]⟩) 1 16 Tryd.underlying22 info_string rfl (by decide) _ (k) _ rfl HO.out [.string bw] rfl (by simp [Value.oneCell']) wr.heap.size rfl rfl (by omega) (by decide) (by omega) ?_)
        intro a7 c7 w7 ho7 hg7 hb7 _
        have HO7 := Lib.hid ho7
        have HB7 := Lib.hid (HB.out.trans hb7)
        have hz7 := HB7.out.size
        clear ho7 hg7 hb7
        have h0 : 0 < k + 1 := by omega
        go_wp2
        all_goals go_ret2
        all_goals exact SplitM.good HS1.out (by rw [List.length_append, HK.out]; rfl) (by omega) (by have := HO7.out; rw [HBW.out] at this; rw [List.map_append]; simpa [byX] using this) HB7.out

end Go.Proofs.YtgdfecnpkjnhnaaDoor
