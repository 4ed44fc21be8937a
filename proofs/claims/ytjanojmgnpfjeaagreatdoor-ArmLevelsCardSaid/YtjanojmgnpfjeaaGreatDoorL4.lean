/- Reference: the check of samples, Sixteenths, Floor, Round, Levels. -/
import Derived.Test.YtjanojmgnpfjeaaGreatDoorL2
import Derived.Test.YtjanojmgnpfjeaaGreatDoorQg
import Derived.Test.YtjanojmgnpfjeaaGreatDoorQj
import Derived.Deep.DeepCutAuto
import Derived.Deep.CutBlock
namespace Go.Proofs.YtjanojmgnpfjeaaGreatDoor
open Go Go.RowKit Go.Sort Go.Shelf
set_option linter.unusedSimpArgs false
set_option linter.unusedVariables false
attribute [local go_sem] cell_if frozen_if grow_cell
set_option maxRecDepth 100000 in
theorem CheckSamples_any (B : Nat) (A : Option Addr) (n c : Nat) (l : List Nat) (w : World) (hr : Reads w B 1 A n (l.map (Value.float .f32))) (hB : B ≤ w.heap.size) (hn : n ≤ 1000) :
    Calls Tryz.prog 16 #[.slice A n c] w fun e w' => e = .returned (.int .i64 (firstE (l.map sampE))) ∧ Below w.heap.size w w' := by
  obtain ⟨hl, ha⟩ := enc_at hr
  have HL := Lib.hid hl
  have HA := Lib.hid ha
  clear hl ha hr
  go_enter Tryz.func16, Tryz.ntmps16
  go_wp2_with fail
  go_loopw [3, 4] (fun i _ wr => ∃ k : Nat, k ≤ n ∧ i = .int .i64 (k : Int) ∧ Hid (firstE (l.map sampE) = firstE ((l.drop k).map sampE)) ∧ Below w.heap.size w wr) (fun i _ _ => n - (intOf i).toNat)
  case atStart => exact ⟨0, Nat.zero_le _, rfl, Lib.hid rfl, bl_⟩
  case round =>
    obtain ⟨k, hk, rfl, hf, hb⟩ := hrel
    have hs := hb.size
    have HB := Lib.hid hb
    by_cases hlt : k < n
    · have hkl : k < l.length := by rw [HL.out]; exact hlt
      obtain ⟨b, o, eA, hbb, z0⟩ := HA.out k hkl
      have kb : ∀ i, wr.cell? ⟨b, i, none⟩ = w.cell? ⟨b, i, none⟩ := fun i => hb.cell (p := ⟨b, i, none⟩) (by simp; omega)
      rw [← kb] at z0
      have hbw : b < wr.heap.size := by omega
      subst eA
      have hd : l.drop k = l[k] :: l.drop (k + 1) := List.drop_eq_getElem_cons hkl
      have HF : Hid (firstE (l.map sampE) = or0 (sampE l[k]) (firstE ((l.drop (k + 1)).map sampE))) := Lib.hid (by rw [hf.out, hd, List.map_cons, firstE_cons])
      have HC := Lib.hid (rCheckSample_any l[k] wr)
      obtain ⟨e, he⟩ : ∃ e, sampE l[k] = e := ⟨_, rfl⟩
      rw [he] at HF HC
      generalize l[k] = x at *
      clear kb hd hf he hb
      by_cases h0 : e = 0
      · subst h0
        have HF2 : Hid (firstE (l.map sampE) = firstE ((l.drop (k + 1)).map sampE)) := HF
        clear HF
        go_wp2_with fail
        refine HC.out.mono ?_
        rintro e w1 ⟨rfl, hb1⟩
        have HB1 := Lib.hid (HB.out.trans (hb1.mono hs))
        clear hb1 HC
        go_wp2_with fail
        go_roundw
        case rel => exact ⟨k + 1, by omega, by go_num, HF2, HB1.out⟩
        case measure => simp [intOf]; omega
      · have hne : (e != 0) = true := by simpa using h0
        have HF2 : Hid (firstE (l.map sampE) = e) := Lib.hid (by rw [HF.out]; unfold or0; rw [if_neg h0])
        clear HF h0
        go_wp2_with fail
        refine HC.out.mono ?_
        rintro e' w1 ⟨rfl, hb1⟩
        have HB1 := Lib.hid (HB.out.trans (hb1.mono hs))
        clear hb1 HC
        go_wp2_with fail
        go_ret
        exact ⟨by rw [HF2.out]; rfl, HB1.out⟩
    · obtain rfl : k = n := by omega
      have hd : l.drop k = [] := List.drop_eq_nil_of_le (by rw [HL.out]; exact Nat.le_refl _)
      have HF2 : Hid (firstE (l.map sampE) = 0) := Lib.hid (by rw [hf.out, hd]; rfl)
      clear hd hf hb
      go_wp2_with fail
      go_ret
      exact ⟨by rw [HF2.out]; rfl, HB.out⟩
theorem Sixteenths_any (x p : Nat) (v : Int) (w : World) (h : Samp x p v) : Calls Tryz.prog 76 #[.float .f32 x] w fun e w' => e = .returned (.int .i64 v) ∧ w = w' := by
  have b2 := fun W => run_float_arith (P := Tryz.prog) W .mul 102 .f32 _ _ _ h.mul
  have b3 := fun W => run_convert_float_int (P := Tryz.prog) W 102 3 .f32 .i64 p v (by kernel_rfl) Tryz.underlying3 h.int
  clear h
  go_enter Tryz.func76, Tryz.ntmps76
  go_wp2_with fail
  go_ret
  exact ⟨rfl, rfl⟩
theorem rFloor_any (num den : Int) (w : World) (hd : 0 < den) (hb : den ≤ 1000000) (hn : -1000000000 ≤ num ∧ num ≤ 1000000000) : Calls Tryz.prog 130 #[.int .i64 num, .int .i64 den] w fun e w' => e = .returned (.int .i64 (num / den)) ∧ w = w' := by
  have hf := floor_eq (num := num) hd
  have h1 := Int.mul_tdiv_add_tmod num den
  have hr : -den < num.tmod den ∧ num.tmod den < den := by
    have t1 := Int.tmod_lt_of_pos num hd
    have t2 := Int.tmod_lt_of_pos (-num) hd
    rw [Int.neg_tmod] at t2
    omega
  have hq : -1000000000 ≤ num.tdiv den ∧ num.tdiv den ≤ 1000000000 := by
    have e := Int.natAbs_tdiv num den
    have h2 := Nat.div_le_self num.natAbs den.natAbs
    have h3 : (num.tdiv den).natAbs ≤ num.natAbs := by rw [e]; exact h2
    omega
  have hd0 : ¬ den = 0 := by omega
  have hd1 : (den == 0) = false := by simpa using hd0
  have hw1 : IntKind.i64.wrap (num.tdiv den) = num.tdiv den := by rw [IntKind.wrap_i64]; omega
  rw [Int.mul_comm] at h1
  have hw2 : IntKind.i64.wrap (num.tdiv den * den) = num.tdiv den * den := by rw [IntKind.wrap_i64]; omega
  have hw3 : IntKind.i64.wrap (num.tdiv den - 1) = num.tdiv den - 1 := by rw [IntKind.wrap_i64]; omega
  by_cases hc : num < num.tdiv den * den
  · rw [if_pos hc] at hf
    have HF := Lib.hid hf
    clear hf h1 hr
    go_enter Tryz.func130, Tryz.ntmps130
    go_wp2_with fail
    go_ret
    exact ⟨by rw [← HF.out]; rfl, rfl⟩
  · rw [if_neg hc] at hf
    have HF := Lib.hid hf
    clear hf h1 hr
    go_enter Tryz.func130, Tryz.ntmps130
    go_wp2_with fail
    go_ret
    exact ⟨by rw [← HF.out]; rfl, rfl⟩
theorem Round_any (num den : Int) (w : World) (hd : 0 < den) (hb : den ≤ 100000) (hn : -10000000 ≤ num ∧ num ≤ 10000000) : Calls Tryz.prog 75 #[.int .i64 num, .int .i64 den] w fun e w' => e = .returned (.int .i64 ((2 * num + den) / (2 * den))) ∧ w = w' := by
  have HF := Lib.hid (fun W => rFloor_any (2 * num + den) (2 * den) W (by omega) (by omega) (by omega))
  have w1 : IntKind.i64.wrap (2 * num) = 2 * num := by rw [IntKind.wrap_i64]; omega
  have w2 : IntKind.i64.wrap (2 * num + den) = 2 * num + den := by rw [IntKind.wrap_i64]; omega
  have w3 : IntKind.i64.wrap (2 * den) = 2 * den := by rw [IntKind.wrap_i64]; omega
  go_enter Tryz.func75, Tryz.ntmps75
  go_wp2_with fail
  refine (HF.out _).mono ?_
  rintro e w4 ⟨rfl, rfl⟩
  go_wp2_with fail
  go_ret
  exact ⟨rfl, rfl⟩
theorem grown_alloc {w w' : World} {o : Obj} {row : Option Nat} (h : (w.alloc o).grownBy w' row) : w.grownBy w' row :=
  ⟨h.os, h.tape, h.output, by have := h.size; rw [World.size_alloc] at this; omega, fun k hk hn => (h.block k (by rw [World.size_alloc]; omega) hn).trans (Below.heap_alloc w _ k hk)⟩
def RLvRes (w : World) (zs : List Int) (e : Ending) (w' : World) : Prop := ∃ v, e = .returned v ∧ w'.ownsRow w.heap.size 3 1 v zs.length (zs.map (.int .i64)) ∧ Below w.heap.size w w'
set_option maxRecDepth 100000 in
set_option maxHeartbeats 4000000 in
theorem rLevels_any (B B2 : Nat) (A A2 : Option Addr) (n c n2 c2 : Nat) (a : Ar) (l : List Nat) (amp : Int) (V : Nat → Int) (w : World) (hM : MsAt w B A n a.m) (hB : B ≤ w.heap.size) (hn : n ≤ 17) (hO : Reads w B2 1 A2 n2 (l.map (Value.float .f32))) (hB2 : B2 ≤ w.heap.size) (hn2 : n2 ≤ 1000) (hS : SampsOk l V) (hamp : 1 ≤ amp ∧ amp ≤ 16384) :
    Calls Tryz.prog 18 #[.agg #[.slice A n c, .int .i64 a.lo, .int .i64 a.hi, .int .i64 a.cur, .int .i64 a.lim], .slice A2 n2 c2, .int .i64 amp] w (RLvRes w (l.map fun x => levI (usL a).length amp (V x))) := by
  obtain ⟨hl, ha⟩ := enc_at hO
  have HL := Lib.hid hl
  have HA := Lib.hid ha
  have hml := (md_at hM).1
  have HU := Lib.hid (fun W (hW : Below w.heap.size w W) => rUsable_any B A n c a W (hM.below (hW.mono hB)) (by have := hW.size; omega) (by omega))
  obtain ⟨m, hm⟩ : ∃ m, (usL a).length = m := ⟨_, rfl⟩
  have hm17 : m ≤ 17 := by
    have h1 := idxs_len usB a.m 0
    have h2 : (usL a).length = (idxs usB 0 a.m).length := rfl
    omega
  have hu : idxs usB 0 a.m = usL a := rfl
  unfold IdRes at HU
  rw [hu, hm] at HU
  rw [hm]
  have HSx := Lib.hid hS
  clear hl ha hO hM hml hm hS hu
  go_enter Tryz.func18, Tryz.ntmps18
  go_wp2_with fail
  refine (HU.out _ bl_).mono ?_
  rintro e w1 ⟨v1, rfl, hr1, hb1⟩
  obtain ⟨A1, c1, rfl, _, _, _⟩ := own_form hr1
  have HL1 : Hid (Below w.heap.size w w1) := Lib.hid bl_
  have hs1 := HL1.out.size
  clear hr1 hb1 HU
  go_wp2_with fail
  go_loopw [7, 9] (fun v i wr => ∃ k : Nat, k ≤ n2 ∧ i = .int .i64 (k : Int) ∧ Hid (wr.ownsRow w.heap.size 3 1 v k ((l.take k).map fun x => Value.int .i64 (levI m amp (V x)))) ∧ Below w.heap.size w wr) (fun _ i _ => n2 - (intOf i).toNat)
  case atStart => exact ⟨0, Nat.zero_le _, rfl, Lib.hid (World.ownsRow_nil _ _ _ _), HL1.out⟩
  case round =>
    clear HL1
    obtain ⟨k, hk, rfl, HO, hb⟩ := hrel
    have hsr := hb.size
    have HB := Lib.hid hb
    by_cases hlt : k < n2
    · have hkl : k < l.length := by rw [HL.out]; exact hlt
      obtain ⟨b, o, eA, hbb, z0⟩ := HA.out k hkl
      have kb : ∀ i, wr.cell? ⟨b, i, none⟩ = w.cell? ⟨b, i, none⟩ := fun i => hb.cell (p := ⟨b, i, none⟩) (by simp; omega)
      rw [← kb] at z0
      have hbw : b < wr.heap.size := by omega
      subst eA
      have Hd : Hid (((l.take (k + 1)).map fun x => Value.int .i64 (levI m amp (V x))) = ((l.take k).map fun x => Value.int .i64 (levI m amp (V x))) ++ [Value.int .i64 (levI m amp (V l[k]))]) := by
        show _ = _
        rw [List.take_succ_eq_append_getElem hkl, List.map_append]; rfl
      have hmem := List.getElem_mem hkl
      generalize l[k] = x at *
      obtain ⟨px, hpx⟩ := HSx.out x hmem
      obtain ⟨v, hv⟩ : ∃ v, V x = v := ⟨_, rfl⟩
      rw [hv] at hpx Hd
      have hbd := hpx.bd
      have HC1 := Lib.hid (fun W => Sixteenths_any x px v W hpx)
      obtain ⟨s, hs⟩ : ∃ s, v + amp = s := ⟨_, rfl⟩
      have hsb : -16384 ≤ s ∧ s ≤ 32768 := by omega
      obtain ⟨t, ht⟩ : ∃ t, (m : Int) * s = t := ⟨_, rfl⟩
      have htb : -600000 ≤ t ∧ t ≤ 600000 := by
        have e := Int.natAbs_mul (m : Int) s
        have := Nat.mul_le_mul (show (m : Int).natAbs ≤ 17 by omega) (show s.natAbs ≤ 32768 by omega)
        rw [ht] at e
        omega
      have hwa : IntKind.i64.wrap (v + amp) = s := by rw [hs, IntKind.wrap_i64]; omega
      have hwb : IntKind.i64.wrap ((m : Int) * s) = t := by rw [ht, IntKind.wrap_i64]; omega
      have hwc : IntKind.i64.wrap (2 * amp) = 2 * amp := by rw [IntKind.wrap_i64]; omega
      have HC2 := Lib.hid (fun W => Round_any t (2 * amp) W (by omega) (by omega) (by omega))
      have HV : Hid (levI m amp v = min (m : Int) (max 0 ((2 * t + 2 * amp) / (2 * (2 * amp))))) := Lib.hid (by unfold levI; rw [hs, ht])
      generalize (2 * t + 2 * amp) / (2 * (2 * amp)) = fl at *
      obtain ⟨lv, hlv⟩ : ∃ lv, levI m amp v = lv := ⟨_, rfl⟩
      rw [hlv] at HV Hd
      clear hlv kb hpx hmem hv hs ht hsb htb hbd
      as_aux_lemma =>
        have HX : Hid (lv = max 0 (min (m : Int) fl)) := Lib.hid (by rw [HV.out]; omega)
        clear HV
        go_wp2_with fail
        refine (HC1.out _).mono ?_
        rintro e w1 ⟨rfl, rfl⟩
        go_wp2_with fail
        refine (HC2.out _).mono ?_
        rintro e w1 ⟨rfl, rfl⟩
        go_wp2_with (at_builtin; refine wpList_appB 30 3 1 8 elemInt rfl (.tmp 19) (.tmp 35) rfl w.heap.size _ k _ rfl (World.ownsRow.alloc HO.out _) wr.heap.size 1 #[.int .i64 (max 0 (min (m : Int) fl))] rfl (Blk.new _ _ _) rfl ?h1 (by decide) ?h3 ?h4 ?h5 ?_)
        (try (case h1 => rfl))
        case h3 => unfold maxLen; omega
        case h4 => omega
        case h5 => simp; omega
        intro g' cap' w7 hown7 hg7 hat7
        have hg6 : wr.grownBy w7 _ := grown_alloc hg7
        have HO7 := Lib.hid hown7
        have HB7 := Lib.hid (HB.out.grown hg6 hsr (fun k e => (row_base_lt HO.out k e).1))
        clear hown7 hg7 hg6 hat7 hb
        go_wp2
        go_roundw
        case rel => exact ⟨k + 1, by omega, by go_num, Lib.hid (by rw [Hd.out, HX.out, List.map_take]; exact HO7.out), HB7.out⟩
        case measure => simp [intOf]; omega
    · obtain rfl : k = n2 := by omega
      have hT : l.take k = l := List.take_of_length_le (by rw [HL.out]; exact Nat.le_refl _)
      have HO2 : Hid (wr.ownsRow w.heap.size 3 1 u7 (l.map fun x => levI m amp (V x)).length ((l.map fun x => levI m amp (V x)).map (.int .i64))) := Lib.hid (by
        have h := HO.out
        rw [hT] at h
        rw [List.length_map, HL.out, List.map_map]
        exact h)
      clear hT HO hb
      go_wp2_with fail
      go_ret
      exact ⟨_, rfl, HO2.out, HB.out⟩
end Go.Proofs.YtjanojmgnpfjeaaGreatDoor
