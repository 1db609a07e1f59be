/- Contracts of splitMethod and SplitMethod of the program. -/
import Derived.Test.YtgdfecnpkjnhnaaDoorMethV
import Derived.Test.YtgdfecnpkjnhnaaDoorMaxL
import Derived.Test.YtgdfecnpkjnhnaaDoorShelf
import Derived.Test.YtgdfecnpkjnhnaaDoorSplitS
import Derived.Test.YtgdfecnpkjnhnaaDoorReadL
import Derived.Test.YtgdfecnpkjnhnaaDoorStay
import Derived.Test.YtgdfecnpkjnhnaaDoorRounds
import Derived.Test.YtgdfecnpkjnhnaaDoorApp
import Derived.Test.YtgdfecnpkjnhnaaDoorStrEq
set_option linter.unusedSimpArgs false
set_option linter.unnecessarySimpa false
set_option linter.unusedVariables false
set_option maxRecDepth 100000
namespace Go.Proofs.YtgdfecnpkjnhnaaDoor
open Go.RowKit

theorem wd_emptyI (wd : List UInt8) : (bytesB wd).toList.isEmpty = decide (wd = []) := by
  rw [ByteArray.toList_eq, bytesB_list]; cases wd <;> simp
theorem bl (s : ByteArray) (hs : s.size ≤ 1048576) : s.data.toList.length ≤ 1048576 := by
  have e : s.data.toList.length = s.size := by cases s; rfl
  omega
theorem strC_one (ps : List (List UInt8)) : ∀ u ∈ strC ps, u.oneCell' = true := by
  intro u hu
  obtain ⟨p, _, rfl⟩ := List.mem_map.1 hu
  simp [Value.oneCell']
theorem pieces_take {P : List (List UInt8)} {k : Nat} (hk : k < P.length) : partsP (P.take (k + 1)) = partsP (P.take k) ++ (if k = 0 then pieceP P[k] else crossP P[k]) := by
  cases P with
  | nil => cases hk
  | cons p ps =>
    cases k with
    | zero => simp [partsP]
    | succ k =>
      have hk' : k < ps.length := by simpa using hk
      rw [if_neg (by omega)]
      simp only [List.take_succ_cons, partsP, List.getElem_cons_succ]
      rw [List.take_succ_eq_append_getElem hk', List.flatMap_append]
      simp
def szP (ps : List (List UInt8)) : Nat := (ps.map fun p => p.length + 2).sum
theorem szP_cons (p : List UInt8) (ps : List (List UInt8)) : szP (p :: ps) = p.length + 2 + szP ps := by simp [szP]
theorem parts_sz (ps : List (List UInt8)) : (partsP ps).length ≤ szP ps := by
  cases ps with
  | nil => simp [partsP]
  | cons p ps =>
    have h1 := pieceP_len p
    have h2 : (ps.flatMap crossP).length ≤ szP ps := by
      induction ps with
      | nil => simp
      | cons q qs ih =>
        have := pieceP_len q
        rw [szP_cons]
        simp only [List.flatMap_cons, crossP, List.length_append, List.length_cons]
        omega
    rw [szP_cons]
    simp only [partsP, List.length_append]
    omega
theorem szP_take (ps : List (List UInt8)) (k : Nat) : szP (ps.take k) ≤ szP ps := by
  have e : szP ps = szP (ps.take k) + szP (ps.drop k) := by
    conv => lhs; rw [← List.take_append_drop k ps]
    unfold szP
    rw [List.map_append, List.sum_append]
  omega
theorem szP_split (c : UInt8) : ∀ l : List UInt8, szP (splitC c l) ≤ 2 * l.length + 2
  | [] => by simp [splitC, szP]
  | b :: r => by
    have ih := szP_split c r
    simp only [splitC, List.length_cons]
    split
    · rw [szP_cons]; simp; omega
    · cases hs : splitC c r with
      | nil => exact absurd hs (splitC_ne c r)
      | cons q qs =>
        rw [hs, szP_cons] at ih
        simp only [consH, szP_cons, List.length_cons]
        omega
theorem parts_bd {l : List UInt8} (h : l.length ≤ 1048576) (k : Nat) : (partsP ((splitC 120 l).take k)).length ≤ 3000000 := by
  have h1 := parts_sz ((splitC 120 l).take k)
  have h2 := szP_take (splitC 120 l) k
  have h3 := szP_split 120 l
  omega

theorem splitSl_any (s : ByteArray) (c : UInt8) (w : World) (hs : s.size ≤ 1048576) (hL : MaxL w) :
    Calls Tryd.prog 52 #[.string s, .string ⟨#[c]⟩] w fun e w' => ∃ a c', e = .returned (.slice a (splitC c s.data.toList).length c') ∧ Sl w' (.slice a (splitC c s.data.toList).length c') (splitC c s.data.toList).length (strC (splitC c s.data.toList)) ∧ Below w.heap.size w w' := by
  have hlen := splitC_len_le c s.data.toList
  have hss : s.data.toList.length = s.size := by cases s; rfl
  obtain ⟨m, hm⟩ := hL
  refine (Tryd.strings_Split s ⟨#[c]⟩ m w (by omega) hm (by exact Nat.le_refl 1)).mono ?_
  rintro e w' ⟨rfl, rfl⟩
  rw [splitB_eq, countB_eq]
  refine ⟨_, _, rfl, ⟨_, _, rfl, Nat.le_refl _, by unfold maxLen; omega, fun j u hu => ⟨w.heap.size, 0, rfl, ?_⟩⟩, belowA _ _⟩
  have hj : j < (splitC c s.data.toList).length := by have := (List.getElem?_eq_some_iff.1 hu).1; rwa [strC_len] at this
  rw [strC_at hj] at hu
  rw [← hu]
  simp [go_sem, hj]


set_option maxHeartbeats 4000000 in
theorem splitMethod_any (s : ByteArray) (w : World) (hs : s.size ≤ 1048576) (hL : MaxL w) :
    Calls Tryd.prog 28 #[.string s] w fun e w' => ∃ v, e = .returned v ∧ w'.ownsRow w.heap.size 9 1 v (mdL s).length (strC (mdL s)) ∧ Below w.heap.size w w' := by
  have hss : s.data.toList.length = s.size := by cases s; rfl
  have HBD := Lib.hid (fun k => parts_bd (l := s.data.toList) (by omega) k)
  have HPL := Lib.hid (fun p (hp : p ∈ splitC 120 s.data.toList) => (splitC_small hp : p.length ≤ s.data.toList.length))
  go_enter Tryd.func28, Tryd.ntmps28
  go_wp2_with fail
  refine (splitSl_any s 120 _ hs hL).mono ?_
  rintro e w0 ⟨a0, c0, rfl, hsl, hb0⟩
  have HFIN := Lib.hid (show mdL s = partsP (splitC 120 s.data.toList) from rfl)
  have hplen := splitC_len_le 120 s.data.toList
  obtain ⟨P, hP⟩ : ∃ P, P = splitC 120 s.data.toList := ⟨_, rfl⟩
  rw [← hP] at HBD HPL HFIN hsl hplen ⊢
  have HL0 := Lib.hid (hL.mono hb0)
  have hz0 := hb0.size
  have HB0 := Lib.hid hb0
  have HS0 := Lib.hid hsl
  clear hP hb0 hsl
  go_wp2_with fail
  go_loopw [3, 4, 5, 9] (fun o _ _ it wr => ∃ (k n : Nat) (a' : Option Addr) (c' : Nat), k ≤ P.length ∧ n = (partsP (P.take k)).length ∧ o = .slice a' n c' ∧ it = .int .i64 (k : Int) ∧ wr.ownsRow w0.heap.size 9 1 (.slice a' n c') n (strC (partsP (P.take k))) ∧ Below w0.heap.size w0 wr) (fun _ _ _ it _ => P.length - (intOf it).toNat)
  case atStart => exact ⟨0, 0, none, 0, Nat.zero_le _, rfl, rfl, by go_num, by simpa [partsP, strC] using owns_nil w0 9 1 _, Below.refl _ _⟩
  case round =>
    obtain ⟨k, n, a', c', hk, hn, rfl, rfl, ho, hbr⟩ := hrel
    have HN := Lib.hid hn; have HO := Lib.hid ho; have HBR := Lib.hid hbr
    have hzr := hbr.size
    have hnb : n ≤ 3000000 := by rw [hn]; exact HBD.out k
    clear hn ho
    by_cases hlt : k < P.length
    · obtain ⟨b1, o1, rfl, c1⟩ := (HS0.out.mono hbr).cells (by rw [strC_len]; omega)
      have d0 : wr.cell? ⟨b1, o1 + k, none⟩ = some (.string (bytesB P[k])) := c1 k _ (strC_at hlt)
      have hem : (bytesB P[k]).toList.isEmpty = decide (P[k] = []) := wd_emptyI _
      have hpk : P[k].length ≤ s.data.toList.length := HPL.out _ (List.getElem_mem hlt)
      have HSZ := Lib.hid (show (bytesB P[k]).size ≤ 1048576 by rw [bytesB_size]; omega)
      have HT := Lib.hid (pieces_take hlt)
      have HN1 := Lib.hid (HBD.out (k + 1))
      have hpl := pieceP_len P[k]
      have hsl1 := splitC_len_le 46 P[k]
      have HSN := Lib.hid (show (splitC 46 P[k]).length ≤ 1048577 by omega)
      clear c1 hbr
      by_cases h0 : k = 0
      · have dk : ¬ 0 < k := by omega
        by_cases hp : P[k] = []
        · have de : (bytesB P[k]).toList.isEmpty = true := by rw [hem]; simpa using hp
          have HT1 := Lib.hid (show partsP (P.take (k + 1)) = partsP (P.take k) by rw [HT.out, if_pos h0, pieceP, if_pos hp, List.append_nil])
          clear hem hp h0 HSZ HT
          go_wp2
          go_roundw
          case rel => exact ⟨k + 1, n, _, c', by omega, by rw [HT1.out]; exact HN.out, rfl, by go_num, by rw [HT1.out]; exact HO.out, HBR.out⟩
          case measure => simp [intOf] <;> omega
        · have de : (bytesB P[k]).toList.isEmpty = false := by rw [hem]; simpa using hp
          have HT1 := Lib.hid (show partsP (P.take (k + 1)) = partsP (P.take k) ++ splitC 46 P[k] by rw [HT.out, if_pos h0, pieceP, if_neg hp])
          clear hem hp h0 HT
          go_wp2_with fail
          refine (splitSl_any (bytesB P[k]) 46 _ HSZ.out (HL0.out.mono HBR.out)).mono ?_
          rw [bytesB_list]
          rintro e w7 ⟨a7, c7, rfl, hsl7, hb7⟩
          have HSL := Lib.hid hsl7
          have HB7 := Lib.hid (HBR.out.trans (hb7.mono hzr))
          have hz7 := HB7.out.size
          have HO7 := Lib.hid (owns_mono HO.out hb7)
          clear hsl7 hb7
          go_wp2_with (at_builtin; refine append_all rfl _ _ 22 rfl w0.heap.size 9 (.string ⟨#[]⟩) 1 16 Tryd.underlying22 info_string rfl (by decide) _ (n) _ rfl HO7.out _ _ _ rfl HSL.out (by rw [strC_len, Nat.mul_one]) (strC_one _) (by have := HSN.out; omega) (by decide) (by omega) ?_)
          intro a8 c8 w8 ho8 hg8 hb8
          have HO8 := Lib.hid ho8
          have HB8 := Lib.hid (HB7.out.trans hb8)
          have hz8 := HB8.out.size
          clear ho8 hg8 hb8
          go_wp2
          go_roundw
          case rel => exact ⟨k + 1, _, a8, c8, by omega, by rw [HT1.out, List.length_append, HN.out], rfl, by go_num, by rw [HT1.out]; simpa [strC] using HO8.out, HB8.out⟩
          case measure => simp [intOf] <;> omega
      · have dk : 0 < k := by omega
        by_cases hp : P[k] = []
        · have de : (bytesB P[k]).toList.isEmpty = true := by rw [hem]; simpa using hp
          have HT1 := Lib.hid (show partsP (P.take (k + 1)) = partsP (P.take k) ++ [[120]] by rw [HT.out, if_neg h0, crossP, pieceP, if_pos hp])
          clear hem hp h0 HSZ HT
          go_wp2_with (at_builtin; refine append_one_at rfl _ _ 22 rfl w0.heap.size 9 (.string ⟨#[]⟩) 1 16 Tryd.underlying22 info_string rfl (by decide) _ n _ rfl HO.out [.string ⟨#[120]⟩] rfl (by simp [Value.oneCell']) wr.heap.size rfl rfl (by omega) (by decide) (by omega) ?_)
          intro a6 c6 w6 ho6 hg6 hb6 _
          have HO6 := Lib.hid ho6
          have hb06 : Below w0.heap.size w0 w6 := HBR.out.trans hb6
          have HB6 := Lib.hid hb06
          have hz6 := hb06.size
          clear ho6 hg6 hb6 hb06
          go_wp2
          go_roundw
          case rel => exact ⟨k + 1, n + 1, a6, c6, by omega, by rw [HT1.out, List.length_append, HN.out]; rfl, rfl, by go_num, by rw [HT1.out]; simpa [strC, bytesB] using HO6.out, HB6.out⟩
          case measure => simp [intOf] <;> omega
        · have de : (bytesB P[k]).toList.isEmpty = false := by rw [hem]; simpa using hp
          have HT1 := Lib.hid (show partsP (P.take (k + 1)) = partsP (P.take k) ++ [[120]] ++ splitC 46 P[k] by rw [HT.out, if_neg h0, crossP, pieceP, if_neg hp]; simp)
          clear hem hp h0 HT
          go_wp2_with (at_builtin; refine append_one_at rfl _ _ 22 rfl w0.heap.size 9 (.string ⟨#[]⟩) 1 16 Tryd.underlying22 info_string rfl (by decide) _ n _ rfl HO.out [.string ⟨#[120]⟩] rfl (by simp [Value.oneCell']) wr.heap.size rfl rfl (by omega) (by decide) (by omega) ?_)
          intro a6 c6 w6 ho6 hg6 hb6 _
          have HO6 := Lib.hid ho6
          have hb06 : Below w0.heap.size w0 w6 := HBR.out.trans hb6
          have HB6 := Lib.hid hb06
          have hz6 := hb06.size
          clear ho6 hg6 hb6 hb06
          go_wp2_with fail
          refine (splitSl_any (bytesB P[k]) 46 _ HSZ.out (HL0.out.mono HB6.out)).mono ?_
          rw [bytesB_list]
          rintro e w7 ⟨a7, c7, rfl, hsl7, hb7⟩
          have HSL := Lib.hid hsl7
          have HB7 := Lib.hid (HB6.out.trans (hb7.mono hz6))
          have hz7 := HB7.out.size
          have HO7 := Lib.hid (owns_mono HO6.out hb7)
          clear hsl7 hb7
          go_wp2_with (at_builtin; refine append_all rfl _ _ 22 rfl w0.heap.size 9 (.string ⟨#[]⟩) 1 16 Tryd.underlying22 info_string rfl (by decide) _ (n + 1) _ rfl HO7.out _ _ _ rfl HSL.out (by rw [strC_len, Nat.mul_one]) (strC_one _) (by have := HSN.out; omega) (by decide) (by omega) ?_)
          intro a8 c8 w8 ho8 hg8 hb8
          have HO8 := Lib.hid ho8
          have HB8 := Lib.hid (HB7.out.trans hb8)
          have hz8 := HB8.out.size
          clear ho8 hg8 hb8
          go_wp2
          go_roundw
          case rel => exact ⟨k + 1, _, a8, c8, by omega, by rw [HT1.out, List.length_append, List.length_append, HN.out]; rfl, rfl, by go_num, by rw [HT1.out]; simpa [strC, bytesB] using HO8.out, HB8.out⟩
          case measure => simp [intOf] <;> omega
    · obtain rfl : k = P.length := by omega
      have HE := Lib.hid (show mdL s = partsP (P.take P.length) by rw [HFIN.out, List.take_length])
      have HB9 := Lib.hid (HB0.out.trans (hbr.mono hz0))
      clear hbr
      go_wp2
      go_ret
      refine ⟨_, rfl, ?_, HB9.out⟩
      rw [HE.out, ← HN.out]
      exact owns_base HO.out hz0

/-- The first index of a text with a property. -/
theorem anyS_any (N : Nat) (p : Value) (F : List UInt8 → Bool) (v : Value) (ts : List (List UInt8)) (w : World) (h : RdStrs w v ts)
    (hN : ∀ args w, Sem.run Tryd.prog (callFunc N args) w = .ok (.enter N args) w)
    (hF : ∀ k (hk : k < ts.length) (w1 : World), Below w.heap.size w w1 → Calls Tryd.prog N #[.string (bytesB ts[k]), p] w1 fun e w2 => e = .returned (.bool (F ts[k])) ∧ Below w1.heap.size w1 w2) :
    Calls Tryd.prog 62 #[v, .func (.func N) #[] #[p]] w fun e w' => ∃ r : Int, e = .returned (.int .i64 r) ∧ decide (0 ≤ r) = ts.any F ∧ Below w.heap.size w w' := by
  obtain ⟨a, ca, rfl, hca, hcm, _⟩ := id h
  have hm : ts.length ≤ maxLen := by omega
  clear hca hcm
  unfold maxLen at hm
  have HF := Lib.hid hF; clear hF
  go_enter Tryd.func62, Tryd.ntmps62
  go_wp2_with fail
  go_loopw [8, 5] (fun i _ wr => ∃ k : Nat, k ≤ ts.length ∧ i = .int .i64 (k : Int) ∧ (∀ j (hj : j < ts.length), j < k → F ts[j] = false) ∧ Below w.heap.size w wr) (fun i _ _ => ts.length - (intOf i).toNat)
  case atStart => exact ⟨0, Nat.zero_le _, by go_num, by intro j hj h; omega, Below.refl _ _⟩
  case round =>
    obtain ⟨k, hk, rfl, ht, hb⟩ := hrel
    have HT := Lib.hid ht; clear ht
    by_cases hlt : k < ts.length
    · obtain ⟨b1, o1, rfl, c1⟩ := Sl.cells (h.mono hb) (by rw [strC_len]; omega)
      have d0 : wr.cell? ⟨b1, o1 + k, none⟩ = some (.string (bytesB ts[k])) := c1 k _ (strC_at hlt)
      clear c1
      have hz := hb.size
      cases g : F ts[k]
      · have G := Lib.hid g; clear g
        go_wp2_with fail
        refine (HF.out k hlt _ hb).mono ?_
        rw [G.out]
        rintro e w1 ⟨rfl, hb1⟩
        go_wp2
        go_roundw
        case rel =>
          refine ⟨k + 1, by omega, by go_num, fun j hj hjk => ?_, hb.trans (hb1.mono hz)⟩
          rcases Nat.lt_or_eq_of_le (Nat.le_of_lt_succ hjk) with h1 | h1
          · exact HT.out j hj h1
          · subst h1; exact G.out
        case measure => simp [intOf] <;> omega
      · have G := Lib.hid g; clear g
        go_wp2_with fail
        refine (HF.out k hlt _ hb).mono ?_
        rw [G.out]
        rintro e w1 ⟨rfl, hb1⟩
        go_wp2
        go_ret
        refine ⟨k, rfl, ?_, hb.trans (hb1.mono hz)⟩
        rw [List.any_eq_true.2 ⟨_, List.getElem_mem hlt, G.out⟩]
        simp
    · go_wp2
      go_ret
      refine ⟨-1, rfl, ?_, hb⟩
      have : ts.any F = false := by
        rw [List.any_eq_false]
        intro x hx
        obtain ⟨j, hj, rfl⟩ := List.getElem_of_mem hx
        rw [HT.out j hj (by omega)]; exact Bool.false_ne_true
      rw [this]; rfl

theorem hasS_any (N : Nat) (p : Value) (F : List UInt8 → Bool) (v : Value) (ts : List (List UInt8)) (w : World) (h : RdStrs w v ts)
    (hN : ∀ args w, Sem.run Tryd.prog (callFunc N args) w = .ok (.enter N args) w)
    (hF : ∀ k (hk : k < ts.length) (w1 : World), Below w.heap.size w w1 → Calls Tryd.prog N #[.string (bytesB ts[k]), p] w1 fun e w2 => e = .returned (.bool (F ts[k])) ∧ Below w1.heap.size w1 w2) :
    Calls Tryd.prog 29 #[v, .func (.func N) #[] #[p]] w fun e w' => e = .returned (.bool (ts.any F)) ∧ Below w.heap.size w w' := by
  go_enter Tryd.func29, Tryd.ntmps29
  go_wp2_with fail
  refine (anyS_any N p F v ts _ h hN hF).mono ?_
  rintro e w1 ⟨r, rfl, hr, hb⟩
  have HX := Lib.hid hr
  clear hr
  go_wp2
  go_ret
  exact ⟨ret_bool HX.out, hb⟩
theorem enters_ch (args : Array Value) (w : World) : Sem.run Tryd.prog (callFunc 30 args) w = .ok (.enter 30 args) w := by
  first | rfl | (simp [callFunc, go_sem]; done) | (go_simp; done)
theorem notChange_any (p : List UInt8) (q : Nat) (n : Int) (w : World) (hc : w.cell? ⟨q, 0, none⟩ = some (.int .i64 n)) (hp : p.length ≤ 1048576) (hn : I64 n) :
    Calls Tryd.prog 30 #[.string (bytesB p), .pointer (some ⟨q, 0, none⟩)] w fun e w' => e = .returned (.bool (!changeB (bytesB p) n)) ∧ Below w.heap.size w w' := by
  have hlt := World.block_lt_of_cell? _ _ hc
  simp only at hlt
  go_enter Tryd.func30, Tryd.ntmps30
  go_wp2_with fail
  refine (implValidChange_any (bytesB p) n _ (by rw [bytesB_size]; exact hp) hn).mono ?_
  rintro e w1 ⟨rfl, hb⟩
  go_wp2
  go_ret
  exact ⟨rfl, hb⟩

set_option maxHeartbeats 2000000 in
theorem implSplitMethod_any (s : ByteArray) (n : Int) (w : World) (hs : s.size ≤ 1048576) (hn : I64 n) (hL : MaxL w) :
    Calls Tryd.prog 8 #[.string s, .int .i64 n] w (MdR s n w) := by
  have hba := belowA w (.cells #[.int .i64 n] 2)
  have HBA := Lib.hid hba
  by_cases hst : stage n
  rotate_left
  · have M := Lib.hid (md_no (s := s) hst)
    go_enter Tryd.func8, Tryd.ntmps8
    go_wp2_with fail
    refine (isStage_any false n _ (noB hst)).mono ?_
    rintro e w1 ⟨rfl, rfl⟩
    go_wp2
    go_ret2
    exact MdR.none M.out HBA.out
  have HLA := Lib.hid (hL.mono hba)
  clear hba
  go_enter Tryd.func8, Tryd.ntmps8
  go_wp2_with fail
  refine (isStage_any true n _ (yesB hst)).mono ?_
  rintro e w1 ⟨rfl, rfl⟩
  go_wp2_with fail
  refine (splitMethod_any s _ hs HLA.out).mono ?_
  rintro e w1 ⟨v, rfl, ho, hb⟩
  have hsm : ∀ q ∈ mdL s, q.length ≤ 1048576 := mtL_small (l := s.data.toList) (bl s hs)
  have HSM := Lib.hid hsm
  obtain ⟨a, c, rfl⟩ := owns_slice ho
  have hle : (mdL s).length ≤ maxLen := by
    rcases ho.2 with ⟨_, h0⟩ | ⟨g, cap, cur, e, _, _, hc, hm, _⟩
    · omega
    · omega
  unfold maxLen at hle
  have q0 : w1.cell? ⟨w.heap.size, 0, none⟩ = some (.int .i64 n) := cellB hb (by simp [go_sem])
  have HB := Lib.hid (HBA.out.trans (hb.mono (by simp)))
  have HO := Lib.hid (owns_base ho (show w.heap.size ≤ _ by simp))
  have HS := Lib.hid (show RdStrs w1 _ (mdL s) from Sl.of_owns ho)
  obtain ⟨ps, hps⟩ : ∃ ps, ps = mdL s := ⟨_, rfl⟩
  have HPS := Lib.hid hps
  rw [← hps] at HSM hle HO HS ⊢
  clear hsm ho hb hps
  by_cases h0 : ps.length = 0
  · have M := Lib.hid (md_bad (s := s) hst (.inl (by rw [← HPS.out]; exact List.length_eq_zero_iff.1 h0)))
    have d0 : ((ps.length : Int) == 0) = true := beq_iff_eq.2 (by omega)
    go_wp2
    go_ret2
    exact MdR.none M.out HB.out
  have d0 : ((ps.length : Int) == 0) = false := beq_eq_false_iff_ne.2 (by omega)
  have HNE := Lib.hid (show ps ≠ [] from fun e => h0 (by rw [e]; rfl))
  have hz1 := HB.out.size
  go_wp2_with fail
  refine (hasS_any 30 (.pointer (some ⟨w.heap.size, 0, none⟩)) (fun p => !changeB (bytesB p) n) _ ps _ HS.out enters_ch (fun k hk w2 hb2 => notChange_any ps[k] w.heap.size n w2 (cellB hb2 q0) (HSM.out _ (List.getElem_mem hk)) hn)).mono ?_
  cases ha : ps.any fun p => !changeB (bytesB p) n
  · have HBAD := Lib.hid (show ¬ mdBad s n by
      rintro (h | ⟨p, hp, hf⟩)
      · exact HNE.out (by rw [HPS.out, h])
      · rw [← HPS.out] at hp
        rw [List.any_eq_false] at ha
        have := ha p hp
        rw [hf] at this
        exact this rfl)
    rintro e w2 ⟨rfl, hb2⟩
    have HB2 := Lib.hid (HB.out.trans (hb2.mono hz1))
    have HO2 := Lib.hid (owns_mono HO.out hb2)
    clear hb2 ha
    by_cases hf : 120 < ps.length
    · have M := Lib.hid (md_full hst HBAD.out (by rw [← HPS.out]; exact hf))
      go_wp2
      go_ret2
      exact MdR.none M.out HB2.out
    · have M := Lib.hid (md_ok hst HBAD.out (by rw [← HPS.out]; exact hf))
      go_wp2
      go_ret2
      refine MdR.some M.out ?_ HB2.out
      rw [← HPS.out]
      exact HO2.out
  · obtain ⟨p, hp, hf⟩ := List.any_eq_true.1 ha
    have M := Lib.hid (md_bad (s := s) hst (.inr ⟨p, by rw [← HPS.out]; exact hp, by simpa using hf⟩))
    rintro e w2 ⟨rfl, hb2⟩
    have HB2 := Lib.hid (HB.out.trans (hb2.mono hz1))
    clear hb2 ha hp hf
    go_wp2
    go_ret2
    exact MdR.none M.out HB2.out

end Go.Proofs.YtgdfecnpkjnhnaaDoor
