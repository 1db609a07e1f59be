/- The reference cuts a text at each of a byte. Contract of l01Split. -/
import Derived.Test.YtgdfecnpkjnhnaaDoorSplitL
import Derived.Test.YtgdfecnpkjnhnaaDoorInfo
set_option linter.unusedSimpArgs false
set_option linter.unnecessarySimpa false
set_option linter.unusedVariables false
set_option maxRecDepth 100000
namespace Go.Proofs.YtgdfecnpkjnhnaaDoor
open Go.RowKit

theorem info_string : (Tryd.prog.info? 9).map (fun i => (i.zero, i.size, i.bytes)) = some (some (.string ⟨#[]⟩), 1, 16) := by kernel_rfl
/-- v is a row of the call's own that holds these texts. -/
def Pcs (B : Nat) (w : World) (v : Value) (ps : List (List UInt8)) : Prop := ∃ a c, v = .slice a ps.length c ∧ w.ownsRow B 9 1 v ps.length (ps.map fun p => Value.string (bytesB p))
theorem Pcs.mono {B : Nat} {w w' : World} {v : Value} {ps : List (List UInt8)} (h : Pcs B w v ps) (hb : Below w.heap.size w w') : Pcs B w' v ps := by
  obtain ⟨a, c, rfl, h⟩ := h
  exact ⟨a, c, rfl, owns_mono h hb⟩
theorem extr (s : ByteArray) (f i : Nat) : s.extract f i = bytesB ((s.data.toList.take i).drop f) := by
  rw [← bytesB_of (s.extract f i)]
  congr 1
  rw [Lib.extract_data, List.drop_take]

set_option maxHeartbeats 2000000 in
theorem l01Split_any (s : ByteArray) (c : UInt8) (w : World) (hs : s.size ≤ 1048576) :
    Calls Tryd.prog 84 #[.string s, .int .u8 (c.toNat : Int)] w fun e w' => ∃ v, e = .returned v ∧ Pcs w.heap.size w' v (splitC c s.data.toList) ∧ Below w.heap.size w w' := by
  obtain ⟨l, hl⟩ : ∃ l, l = s.data.toList := ⟨_, rfl⟩
  have hsz : l.length = s.size := by rw [hl]; rfl
  obtain ⟨ci, hci⟩ : ∃ ci : Int, ci = (c.toNat : Int) := ⟨_, rfl⟩
  have HL := Lib.hid hl
  have HC := Lib.hid hci
  have HSZ := Lib.hid hsz
  rw [← hl, ← hci]
  clear hl hci hsz
  go_enter Tryd.func84, Tryd.ntmps84
  go_wp2_with fail
  go_loopw [5, 6, 7] (fun o ft it wr => ∃ (i f k : Nat) (ds : List (List UInt8)) (a' : Option Addr) (c' : Nat), i ≤ s.size ∧ f ≤ i ∧ ds.length = k ∧ k ≤ i ∧ o = .slice a' k c' ∧ ft = .int .i64 (f : Int) ∧ it = .int .i64 (i : Int) ∧ splitC c l = ds ++ splitC c (l.drop f) ∧ free c ((l.take i).drop f) ∧ wr.ownsRow w.heap.size 9 1 (.slice a' k c') k (ds.map fun p => Value.string (bytesB p)) ∧ Below w.heap.size w wr) (fun _ _ it _ => s.size - (intOf it).toNat)
  case atStart => exact ⟨0, 0, 0, [], some ⟨w.heap.size, 0, none⟩, 0, Nat.zero_le _, Nat.le_refl _, rfl, Nat.le_refl _, rfl, by go_num, by go_num, by simp, (fun b hb => by simp at hb), by simpa using owns_empty w 9 1 _ (Nat.le_refl _), by (repeat (first | with_reducible exact Below.refl _ _ | with_reducible exact hbw | (with_reducible refine Below.setCell ?_ ?_ _; rotate_left; · first | exact Nat.le_refl _ | omega | (simp; done) | (simp; omega)) | (with_reducible refine Below.alloc ?_ ?_ _; rotate_left; · first | exact Nat.le_refl _ | omega | (simp; done) | (simp; omega)) | with_reducible refine below_drewN ?_ _ | with_reducible refine Below.drew ?_))⟩
  case round =>
    obtain ⟨i, f, k, ds, a', c', hi, hf, hk, hki, rfl, rfl, rfl, hsp, hfr, ho, hb⟩ := hrel
    have HK := Lib.hid hk; have HSP := Lib.hid hsp; have HFR := Lib.hid hfr; have HO := Lib.hid ho; have HB := Lib.hid hb
    have hz := hb.size
    clear hk hsp hfr ho hb
    by_cases hlt : i < s.size
    · have hil : i < l.length := by rw [HSZ.out]; exact hlt
      have hgi : s[i] = l[i] := by
        have := HL.out
        subst this
        rfl
      obtain ⟨g, hg⟩ : ∃ g : Int, (s[i].toNat : Int) = g := ⟨_, rfl⟩
      have HX := Lib.hid (show s.extract f i = bytesB ((l.take i).drop f) by rw [HL.out]; exact extr s f i)
      by_cases hc : l[i] = c
      · have dc : (g == ci) = true := by rw [← hg, hgi, hc, HC.out]; simp
        have hspl := split_at hil hf hc HFR.out
        have HS1 := Lib.hid (show splitC c l = (ds ++ [(l.take i).drop f]) ++ splitC c (l.drop (i + 1)) by rw [HSP.out, hspl]; simp)
        clear hspl hc hgi
        go_wp2_with (at_builtin; refine append_one_at rfl _ _ 22 rfl w.heap.size 9 (.string ⟨#[]⟩) 1 16 Tryd.underlying22 info_string rfl (by decide) _ k _ rfl HO.out [.string (s.extract f i)] rfl (by simp [Value.oneCell']) wr.heap.size rfl rfl (by omega) (by decide) (by omega) ?_)
        intro a7 c7 w7 ho7 hg7 hb7 _
        have HN7 := Lib.hid (show w7.ownsRow w.heap.size 9 1 (.slice a7 (k + 1) c7) (k + 1) ((ds ++ [(l.take i).drop f]).map fun p => Value.string (bytesB p)) from by
          rw [List.map_append, List.map_cons, List.map_nil, ← HX.out]; exact ho7)
        have HB7 := Lib.hid (HB.out.trans hb7)
        clear ho7 hg7 hb7 HO
        go_wp2
        go_roundw
        case rel => exact ⟨i + 1, i + 1, k + 1, _, a7, c7, by omega, by omega, by rw [List.length_append, HK.out]; rfl, by omega, rfl, by go_num, by go_num, HS1.out, (fun b hb => by rw [List.drop_eq_nil_of_le (by rw [List.length_take]; omega)] at hb; cases hb), HN7.out, HB7.out⟩
        case measure => simp [intOf] <;> omega
      · have dc : (g == ci) = false := by
          rw [← hg, hgi, HC.out]
          simp only [beq_eq_false_iff_ne, ne_eq, Int.natCast_inj]
          exact fun e => hc (UInt8.toNat_inj.1 e)
        have HF1 := Lib.hid (show free c ((l.take (i + 1)).drop f) by
          rw [List.take_succ_eq_append_getElem hil, List.drop_append_of_le_length (by rw [List.length_take]; omega)]
          intro b hb
          rcases List.mem_append.1 hb with hb | hb
          · exact HFR.out b hb
          · rw [List.mem_singleton.1 hb]; exact hc)
        clear hc hgi
        go_wp2
        go_roundw
        case rel => exact ⟨i + 1, f, k, ds, a', c', by omega, by omega, HK.out, by omega, rfl, by go_num, by go_num, HSP.out, HF1.out, HO.out, HB.out⟩
        case measure => simp [intOf] <;> omega
    · obtain rfl : i = s.size := by omega
      have HX := Lib.hid (show s.extract f s.size = bytesB ((l.take s.size).drop f) by rw [HL.out]; exact extr s f s.size)
      have HSE := Lib.hid (show splitC c l = ds ++ [(l.take s.size).drop f] by
        have e : l.take s.size = l := by rw [← HSZ.out, List.take_length]
        have hf := HFR.out
        rw [HSP.out, e] at *
        rw [split_none hf])
      go_wp2_with (at_builtin; refine append_one_at rfl _ _ 22 rfl w.heap.size 9 (.string ⟨#[]⟩) 1 16 Tryd.underlying22 info_string rfl (by decide) _ k _ rfl HO.out [.string (s.extract f s.size)] rfl (by simp [Value.oneCell']) wr.heap.size rfl rfl (by omega) (by decide) (by omega) ?_)
      intro a7 c7 w7 ho7 hg7 hb7 _
      have HN7 := Lib.hid (show Pcs w.heap.size w7 (.slice a7 (k + 1) c7) (splitC c l) from by
        have e : (splitC c l).length = k + 1 := by rw [HSE.out, List.length_append, HK.out]; rfl
        refine ⟨a7, c7, by rw [e], ?_⟩
        rw [e, HSE.out, List.map_append, List.map_cons, List.map_nil, ← HX.out]; exact ho7)
      have HB7 := Lib.hid (HB.out.trans hb7)
      clear ho7 hg7 hb7 HO
      go_wp2
      go_ret
      exact ⟨_, rfl, HN7.out, HB7.out⟩

end Go.Proofs.YtgdfecnpkjnhnaaDoor
