/- Levels of the program: samples that are multiples of a sixteenth, in range. -/
import Derived.Laws.FloatArith
import Derived.Test.YtjanojmgnpfjeaaGreatDoorQn
namespace Go.Proofs.YtjanojmgnpfjeaaGreatDoor
open Go Go.RowKit Go.Sort Go.Shelf
set_option linter.unusedSimpArgs false
set_option linter.unusedVariables false
attribute [local go_sem] cell_if frozen_if grow_cell
/-- A sample without an error: p are the bits of sixteen times it, v is that as an integer. -/
structure Samp (x p : Nat) (v : Int) : Prop where
  sub : ∃ s, floatBits .sub .f32 x x = some s ∧ FloatKind.f32.format.order s 0 = some .eq
  lo : (FloatKind.f32.format.order x 3296722944 == some .lt) = false
  hi : (FloatKind.f32.format.order x (floatOfInt .f32 1024) == some .gt) = false
  mul : floatBits .mul .f32 1098907648 x = some p
  int : floatToIntVal .f32 p .i64 = some v
  back : FloatKind.f32.format.order (floatOfInt .f32 v) p = some .eq
  bd : -16384 ≤ v ∧ v ≤ 16384
theorem pwhen_no (n : Int) (w : World) : Calls Tryz.prog 173 #[.bool false, .int .i64 n] w fun e w' => e = .returned (.int .i64 0) ∧ w = w' := by
  go_enter Tryz.func173, Tryz.ntmps173
  go_wp2
  go_ret
  exact ⟨rfl, rfl⟩
set_option maxRecDepth 100000 in
theorem checkPart_ok (x p : Nat) (v : Int) (w : World) (h : Samp x p v) : Calls Tryz.prog 124 #[.float .f32 x, .int .i64 1024] w fun e w' => e = .returned (.int .i64 0) ∧ w = w' := by
  obtain ⟨⟨s, hs, hs0⟩, hlo, hhi, hm, hi, hb, hbd⟩ := h
  have b1 := fun W => run_float_arith (P := Tryz.prog) W .sub 102 .f32 _ _ _ hs
  have b2 := fun W => run_float_arith (P := Tryz.prog) W .mul 102 .f32 _ _ _ hm
  have b3 := fun W => run_convert_float_int (P := Tryz.prog) W 102 3 .f32 .i64 p v (by kernel_rfl) Tryz.underlying3 hi
  have b4 : (FloatKind.f32.format.order s 0 != some .eq) = false := by rw [hs0]; rfl
  have b5 : (FloatKind.f32.format.order (floatOfInt .f32 v) p != some .eq) = false := by rw [hb]; rfl
  have b6 : ∀ W, (Op.unary .neg (.float .f32 (floatOfInt .f32 1024))).run Tryz.prog W = .ok (.float .f32 3296722944) W := fun W => by
    have e : floatOfInt .f32 1024 = 1149239296 := by decide +kernel
    rw [e]
    rfl
  clear hs0 hb hs hm hi
  go_enter Tryz.func124, Tryz.ntmps124
  go_wp2_with fail
  refine (pwhen_no _ _).mono ?_
  rintro e w1 ⟨rfl, rfl⟩
  go_wp2_with fail
  go_ret
  exact ⟨rfl, rfl⟩
theorem CheckSample_ok (x p : Nat) (v : Int) (w : World) (h : Samp x p v) : Calls Tryz.prog 62 #[.float .f32 x] w fun e w' => e = .returned (.int .i64 0) ∧ w = w' := by
  have HC := Lib.hid (checkPart_ok x p v w h)
  clear h
  go_enter Tryz.func62, Tryz.ntmps62
  go_wp2_with fail
  refine HC.out.mono ?_
  rintro e w1 ⟨rfl, rfl⟩
  go_wp2_with fail
  go_ret
  exact ⟨rfl, rfl⟩
theorem enc_at {α : Type} {enc : α → Value} {w : World} {B n : Nat} {A : Option Addr} {l : List α} (h : Reads w B 1 A n (l.map enc)) : l.length = n ∧ ∀ k, (hk : k < l.length) → ∃ b o, A = some ⟨b, o, none⟩ ∧ b < B ∧ w.cell? ⟨b, o + k, none⟩ = some (enc l[k]) := by
  have hl : l.length = n := by simpa using h.1
  refine ⟨hl, fun k hk => ?_⟩
  obtain ⟨b, o, e, hb, hc⟩ := h.2 (by omega)
  exact ⟨b, o, e, hb, hc k _ (by rw [List.getElem?_map, List.getElem?_eq_getElem hk]; rfl)⟩
/-- A row of samples without an error. -/
def SampsOk (l : List Nat) (V : Nat → Int) : Prop := ∀ x ∈ l, ∃ p, Samp x p (V x)
set_option maxRecDepth 100000 in
set_option maxHeartbeats 2000000 in
theorem mapFE_any (B : Nat) (A : Option Addr) (n c : Nat) (l : List Nat) (w : World) (V : Nat → Int) (hS : SampsOk l V) (hr : Reads w B 1 A n (l.map (Value.float .f32))) (hB : B ≤ w.heap.size) (hn : n ≤ 1000) :
    Calls Tryz.prog 61 #[.slice A n c, .func (.func 62) #[] #[]] w (MapRes 31 w (l.map fun x => Value.int .i64 ((fun _ : Nat => (0 : Int)) x))) := by
  obtain ⟨hl, ha⟩ := enc_at hr
  have HL := Lib.hid hl
  have HA := Lib.hid ha
  clear hl ha hr
  
  go_enter Tryz.func61, Tryz.ntmps61
  go_wp2_with fail
  go_loopw [5, 7, 10] (fun v s7 i wr => ∃ k : Nat, k ≤ n ∧ i = .int .i64 k ∧ wr.ownsRow w.heap.size 31 1 v k ((l.take k).map fun x => Value.int .i64 ((fun _ : Nat => (0 : Int)) x)) ∧ Below w.heap.size w wr) (fun _ _ i _ => n - (intOf i).toNat)
  case atStart => exact ⟨0, by omega, rfl, World.ownsRow_nil _ _ _ _, bl_⟩
  case round =>
    obtain ⟨k, hk, rfl, hO, hb⟩ := hrel
    have HO := Lib.hid hO
    clear hO
    have hs := hb.size
    by_cases hlt : k < n
    · have hkl : k < l.length := by rw [HL.out]; exact hlt
      obtain ⟨b, o, eA, hbb, z0⟩ := HA.out k hkl
      have kb : ∀ i, wr.cell? ⟨b, i, none⟩ = w.cell? ⟨b, i, none⟩ := fun i => hb.cell (p := ⟨b, i, none⟩) (by simp; omega)
      rw [← kb] at z0
      clear kb
      have hbw : b < wr.heap.size := by omega
      subst eA
      have hmem := List.getElem_mem hkl
      have Hd : Hid (((l.take (k + 1)).map fun x => Value.int .i64 ((fun _ : Nat => (0 : Int)) x)) = ((l.take k).map fun x => Value.int .i64 ((fun _ : Nat => (0 : Int)) x)) ++ [(fun x => Value.int .i64 ((fun _ : Nat => (0 : Int)) x)) l[k]]) := by
        show _ = _
        rw [List.take_succ_eq_append_getElem hkl, List.map_append]; rfl
      generalize l[k] = x at *
      obtain ⟨px, hpx⟩ := hS x hmem; have HSx := Lib.hid hpx; clear hpx hmem
      go_wp2_with (first | (go_at_call 62; refine (CheckSample_ok x px (V x) _ HSx.out).mono ?_; rintro e w1 ⟨rfl, rfl⟩) | (at_builtin; refine wpList_app 113 31 1 8 elemErrno rfl (.tmp 14) (.tmp 18) rfl w.heap.size _ k _ rfl HO.out 1 rfl rfl ?h1 (by decide) ?h3 (by omega) (by omega) ?_))
      case h1 => rfl
      case h3 => unfold maxLen; omega
      intro g' cap' w' hown' hb' _ hs'
      go_wp2
      go_roundw
      case rel => exact ⟨k + 1, by omega, by go_num, by rw [Hd.out]; simpa using hown', hb.trans hb'⟩
      case measure => simp [intOf]; omega
    · obtain rfl : k = n := by omega
      have HL2 := Lib.hid HL.out
      go_wp2
      go_ret
      refine ⟨_, rfl, ?_, hb⟩
      have := HO.out
      rw [List.take_of_length_le (by rw [HL2.out]; exact Nat.le_refl _)] at this
      rw [List.length_map, HL2.out]
      exact this
theorem floor_eq {num den : Int} (hd : 0 < den) : (if num < num.tdiv den * den then num.tdiv den - 1 else num.tdiv den) = num / den := by
  have h1 := Int.mul_tdiv_add_tmod num den
  have h2 := Int.ediv_emod_unique (a := num) (b := den) (q := num / den) (r := num % den) hd
  have e1 := Int.emod_nonneg num (show den ≠ 0 by omega)
  have e2 := Int.emod_lt_of_pos num hd
  have e3 := Int.mul_ediv_add_emod num den
  rcases Int.lt_or_le num 0 with hn | hn
  · have t1 : num.tmod den ≤ 0 := by
      have := Int.tmod_nonneg den (show 0 ≤ -num by omega)
      rw [Int.neg_tmod] at this
      omega
    have t2 : -den < num.tmod den := by
      have := Int.tmod_lt_of_pos (-num) hd
      rw [Int.neg_tmod] at this
      omega
    rw [Int.mul_comm] at h1
    split
    · rename_i hq
      have := (Int.ediv_emod_unique (a := num) (b := den) (q := num.tdiv den - 1) (r := num.tmod den + den) hd).2 ⟨by rw [Int.mul_sub, Int.mul_comm den (num.tdiv den)]; omega, by omega, by omega⟩
      exact this.1.symm
    · rename_i hq
      have hr : num.tmod den = 0 := by omega
      have := (Int.ediv_emod_unique (a := num) (b := den) (q := num.tdiv den) (r := 0) hd).2 ⟨by rw [Int.mul_comm den]; omega, by omega, by omega⟩
      exact this.1.symm
  · have e : num.tdiv den = num / den := Int.tdiv_eq_ediv_of_nonneg hn
    rw [e, Int.mul_comm (num / den) den, if_neg (by omega)]
theorem floor_any (num den : Int) (w : World) (hd : 0 < den) (hb : den ≤ 1000000) (hn : -1000000000 ≤ num ∧ num ≤ 1000000000) : Calls Tryz.prog 68 #[.int .i64 num, .int .i64 den] w fun e w' => e = .returned (.int .i64 (num / den)) ∧ w = w' := by
  have hf := floor_eq (num := num) hd
  have h1 := Int.mul_tdiv_add_tmod num den
  have hr : -den < num.tmod den ∧ num.tmod den < den := by
    have t1 := Int.tmod_lt_of_pos num hd
    have t2 := Int.tmod_lt_of_pos (-num) hd
    rw [Int.neg_tmod] at t2
    omega
  have hq : -1000000000 ≤ num.tdiv den ∧ num.tdiv den ≤ 1000000000 := by
    have e := Int.natAbs_tdiv num den
    have h2 := Nat.div_le_self num.natAbs den.natAbs
    have h3 : (num.tdiv den).natAbs ≤ num.natAbs := by rw [e]; exact h2
    omega
  have hd0 : ¬ den = 0 := by omega
  have hd1 : (den == 0) = false := by simpa using hd0
  have hw1 : IntKind.i64.wrap (num.tdiv den) = num.tdiv den := by rw [IntKind.wrap_i64]; omega
  rw [Int.mul_comm] at h1
  have hw2 : IntKind.i64.wrap (num.tdiv den * den) = num.tdiv den * den := by rw [IntKind.wrap_i64]; omega
  have hw3 : IntKind.i64.wrap (num.tdiv den - 1) = num.tdiv den - 1 := by rw [IntKind.wrap_i64]; omega
  have HF := Lib.hid hf
  by_cases hc : num < num.tdiv den * den
  · rw [if_pos hc] at hf
    have HF := Lib.hid hf
    clear hf h1 hr
    go_enter Tryz.func68, Tryz.ntmps68
    go_wp2_with fail
    go_ret
    exact ⟨by rw [← HF.out]; rfl, rfl⟩
  · rw [if_neg hc] at hf
    have HF := Lib.hid hf
    clear hf h1 hr
    go_enter Tryz.func68, Tryz.ntmps68
    go_wp2_with fail
    go_ret
    exact ⟨by rw [← HF.out]; rfl, rfl⟩
/-- The level of a sample. -/
def levI (n : Nat) (amp v : Int) : Int := min (n : Int) (max 0 ((2 * ((n : Int) * (v + amp)) + 2 * amp) / (2 * (2 * amp))))
set_option maxRecDepth 100000 in
set_option maxHeartbeats 2000000 in
theorem levels1_any (x p : Nat) (v amp : Int) (n : Nat) (bn ba : Nat) (w : World) (h : Samp x p v) (h1 : Blk w bn 3 #[.int .i64 (n : Int)]) (h2 : Blk w ba 3 #[.int .i64 amp]) (hn : n ≤ 17) (ha : 1 ≤ amp ∧ amp ≤ 16384) :
    Calls Tryz.prog 67 #[.float .f32 x, .pointer (some ⟨bn, 0, none⟩), .pointer (some ⟨ba, 0, none⟩)] w fun e w' => e = .returned (.int .i64 (levI n amp v)) ∧ Below w.heap.size w w' := by
  obtain ⟨_, _, _, hm, hi, _, hbd⟩ := h
  have b2 := fun W => run_float_arith (P := Tryz.prog) W .mul 102 .f32 _ _ _ hm
  have b3 := fun W => run_convert_float_int (P := Tryz.prog) W 102 3 .f32 .i64 p v (by kernel_rfl) Tryz.underlying3 hi
  clear hm hi
  obtain ⟨s, hs⟩ : ∃ s, v + amp = s := ⟨_, rfl⟩
  have hsb : -16384 ≤ s ∧ s ≤ 32768 := by omega
  obtain ⟨t, ht⟩ : ∃ t, (n : Int) * s = t := ⟨_, rfl⟩
  have htb : -600000 ≤ t ∧ t ≤ 600000 := by
    have e := Int.natAbs_mul (n : Int) s
    have := Nat.mul_le_mul (show (n : Int).natAbs ≤ 17 by omega) (show s.natAbs ≤ 32768 by omega)
    rw [ht] at e
    omega
  have hwa : IntKind.i64.wrap (v + amp) = s := by rw [hs, IntKind.wrap_i64]; omega
  have hwb : IntKind.i64.wrap ((n : Int) * s) = t := by rw [ht, IntKind.wrap_i64]; omega
  have hwc : IntKind.i64.wrap (2 * amp) = 2 * amp := by rw [IntKind.wrap_i64]; omega
  have hwd : IntKind.i64.wrap (2 * t) = 2 * t := by rw [IntKind.wrap_i64]; omega
  have hwe : IntKind.i64.wrap (2 * t + 2 * amp) = 2 * t + 2 * amp := by rw [IntKind.wrap_i64]; omega
  have hwf : IntKind.i64.wrap (2 * (2 * amp)) = 2 * (2 * amp) := by rw [IntKind.wrap_i64]; omega
  have HF := Lib.hid (fun W => floor_any (2 * t + 2 * amp) (2 * (2 * amp)) W (by omega) (by omega) (by omega))
  have HV : Hid (levI n amp v = min (n : Int) (max 0 ((2 * t + 2 * amp) / (2 * (2 * amp))))) := Lib.hid (by unfold levI; rw [hs, ht])
  generalize (2 * t + 2 * amp) / (2 * (2 * amp)) = fl at *
  have cN := h1.cell
  have lN := h1.lt
  have cA := h2.cell
  have lA := h2.lt
  clear hs ht h1 h2
  go_enter Tryz.func67, Tryz.ntmps67
  go_wp2_with fail
  (refine wp_region_calm [] [0, 1, 2, 3, 4, 5, 6, 7, 8] 2 (by kernel_rfl) rfl (by kernel_rfl) (by kernel_rfl) (by kernel_rfl) ?_; simp only [pickB, List.filterMap_cons, List.filterMap_nil, List.getElem?_toArray, List.getElem?_cons_zero, List.getElem?_cons_succ]; (repeat (first | ((first | (with_reducible refine quietL_plain rfl (fun K hK => ?_)) | (with_reducible refine quietL_want (by with_unfolding_all rfl) (fun K hK => ?_))); (apply Exists.intro; refine ⟨fun wx hx => ?_, ?_⟩; (· (have hcx := ifs_ex hx); simp [go_sem, *, ↓IntWalk.iteOmega] <;> (first | rfl | exact ⟨rfl, rfl⟩ | fail)); (simp only [Act.put, List.setIfInBounds_toArray, List.set_cons_zero, List.set_cons_succ]; refine hK _ ?_; clear hK K))) | ((with_reducible refine quietL_skip (by with_unfolding_all rfl) ?_); simp only [Act.put, List.setIfInBounds_toArray, List.set_cons_zero, List.set_cons_succ]))); refine quietL_nil ?_)
  (refine anyB_one (i := 9) (by kernel_rfl) rfl rfl ?_; intro w4 hb4 K hK; have hs4 := hb4.size; (try simp at hs4); go_wp2; refine ⟨xs_, ?_⟩)
  (refine anyB_one (i := 10) (by kernel_rfl) rfl rfl ?_; intro w5 hb5 K hK; have hs5 := hb5.size; (try simp at hs5); go_wp2; refine ⟨xs_, ?_⟩)
  (refine anyB_end (by kernel_rfl) ?_; intro w6 hb6; have hs6 := hb6.size; (try simp at hs6); simp only [Calm])
  have hb6' : Below w.heap.size w w6 := bl_
  have HB6 := Lib.hid hb6'
  have cN6 : ∀ i, w6.cell? ⟨bn, i, none⟩ = #[Value.int .i64 (n : Int)][i]? := fun i => (hb6'.cell (p := ⟨bn, i, none⟩) lN).trans (cN i)
  have cA6 : ∀ i, w6.cell? ⟨ba, i, none⟩ = #[Value.int .i64 amp][i]? := fun i => (hb6'.cell (p := ⟨ba, i, none⟩) lA).trans (cA i)
  have lN6 : bn < w6.heap.size := by have := hb6'.size; omega
  have lA6 : ba < w6.heap.size := by have := hb6'.size; omega
  clear cN cA lN lA hb4 hb5 hb6 hb6' b2 b3
  rcases Int.lt_or_le 0 fl with c1 | c1
  · rcases Int.lt_or_le fl (n : Int) with c2 | c2
    · skip
      go_wp2_with fail
      (refine wp_region_calm [] [0, 1, 2, 3, 4, 5, 6, 7, 8, 9] 1 (by kernel_rfl) rfl (by kernel_rfl) (by kernel_rfl) (by kernel_rfl) ?_; simp only [pickB, List.filterMap_cons, List.filterMap_nil, List.getElem?_toArray, List.getElem?_cons_zero, List.getElem?_cons_succ]; (repeat (first | ((first | (with_reducible refine quietL_plain rfl (fun K hK => ?_)) | (with_reducible refine quietL_want (by with_unfolding_all rfl) (fun K hK => ?_))); (apply Exists.intro; refine ⟨fun wx hx => ?_, ?_⟩; (· (have hcx := ifs_ex hx); simp [go_sem, *, ↓IntWalk.iteOmega] <;> (first | rfl | exact ⟨rfl, rfl⟩ | (with_reducible exact calls_B (calls_below (HF.out _))))); (simp only [Act.put, List.setIfInBounds_toArray, List.set_cons_zero, List.set_cons_succ]; refine hK _ ?_; clear hK K))) | ((with_reducible refine quietL_skip (by with_unfolding_all rfl) ?_); simp only [Act.put, List.setIfInBounds_toArray, List.set_cons_zero, List.set_cons_succ]))); refine quietL_nil ?_)
      (refine anyB_one (i := 10) (by kernel_rfl) rfl rfl ?_; intro w7 hb7 K hK; have hs7 := hb7.size; (try simp at hs7); go_wp2; refine ⟨xs_, ?_⟩)
      (refine anyB_end (by kernel_rfl) ?_; intro w8 hb8; have hs8 := hb8.size; (try simp at hs8); simp only [Calm])
      have hb8' : Below w6.heap.size w6 w8 := bl_
      go_wp2_with fail
      go_ret
      exact ⟨by rw [HV.out]; congr 2 <;> omega, HB6.out.trans (hb8'.mono HB6.out.size)⟩
    · skip
      go_wp2_with fail
      (refine wp_region_calm [] [0, 1, 2, 3, 4, 5, 6, 7, 8, 9] 1 (by kernel_rfl) rfl (by kernel_rfl) (by kernel_rfl) (by kernel_rfl) ?_; simp only [pickB, List.filterMap_cons, List.filterMap_nil, List.getElem?_toArray, List.getElem?_cons_zero, List.getElem?_cons_succ]; (repeat (first | ((first | (with_reducible refine quietL_plain rfl (fun K hK => ?_)) | (with_reducible refine quietL_want (by with_unfolding_all rfl) (fun K hK => ?_))); (apply Exists.intro; refine ⟨fun wx hx => ?_, ?_⟩; (· (have hcx := ifs_ex hx); simp [go_sem, *, ↓IntWalk.iteOmega] <;> (first | rfl | exact ⟨rfl, rfl⟩ | (with_reducible exact calls_B (calls_below (HF.out _))))); (simp only [Act.put, List.setIfInBounds_toArray, List.set_cons_zero, List.set_cons_succ]; refine hK _ ?_; clear hK K))) | ((with_reducible refine quietL_skip (by with_unfolding_all rfl) ?_); simp only [Act.put, List.setIfInBounds_toArray, List.set_cons_zero, List.set_cons_succ]))); refine quietL_nil ?_)
      (refine anyB_one (i := 10) (by kernel_rfl) rfl rfl ?_; intro w7 hb7 K hK; have hs7 := hb7.size; (try simp at hs7); go_wp2; refine ⟨xs_, ?_⟩)
      (refine anyB_end (by kernel_rfl) ?_; intro w8 hb8; have hs8 := hb8.size; (try simp at hs8); simp only [Calm])
      have hb8' : Below w6.heap.size w6 w8 := bl_
      go_wp2_with fail
      go_ret
      exact ⟨by rw [HV.out]; congr 2 <;> omega, HB6.out.trans (hb8'.mono HB6.out.size)⟩
  · by_cases c2 : 0 < n
    · have c3 : (0 : Int) < (n : Int) := by omega
      go_wp2_with fail
      (refine wp_region_calm [] [0, 1, 2, 3, 4, 5, 6, 7, 8, 9] 1 (by kernel_rfl) rfl (by kernel_rfl) (by kernel_rfl) (by kernel_rfl) ?_; simp only [pickB, List.filterMap_cons, List.filterMap_nil, List.getElem?_toArray, List.getElem?_cons_zero, List.getElem?_cons_succ]; (repeat (first | ((first | (with_reducible refine quietL_plain rfl (fun K hK => ?_)) | (with_reducible refine quietL_want (by with_unfolding_all rfl) (fun K hK => ?_))); (apply Exists.intro; refine ⟨fun wx hx => ?_, ?_⟩; (· (have hcx := ifs_ex hx); simp [go_sem, *, ↓IntWalk.iteOmega] <;> (first | rfl | exact ⟨rfl, rfl⟩ | (with_reducible exact calls_B (calls_below (HF.out _))))); (simp only [Act.put, List.setIfInBounds_toArray, List.set_cons_zero, List.set_cons_succ]; refine hK _ ?_; clear hK K))) | ((with_reducible refine quietL_skip (by with_unfolding_all rfl) ?_); simp only [Act.put, List.setIfInBounds_toArray, List.set_cons_zero, List.set_cons_succ]))); refine quietL_nil ?_)
      (refine anyB_one (i := 10) (by kernel_rfl) rfl rfl ?_; intro w7 hb7 K hK; have hs7 := hb7.size; (try simp at hs7); go_wp2; refine ⟨xs_, ?_⟩)
      (refine anyB_end (by kernel_rfl) ?_; intro w8 hb8; have hs8 := hb8.size; (try simp at hs8); simp only [Calm])
      have hb8' : Below w6.heap.size w6 w8 := bl_
      go_wp2_with fail
      go_ret
      exact ⟨by rw [HV.out]; congr 2 <;> omega, HB6.out.trans (hb8'.mono HB6.out.size)⟩
    · have c3 : ¬ (0 : Int) < (n : Int) := by omega
      go_wp2_with fail
      (refine wp_region_calm [] [0, 1, 2, 3, 4, 5, 6, 7, 8, 9] 1 (by kernel_rfl) rfl (by kernel_rfl) (by kernel_rfl) (by kernel_rfl) ?_; simp only [pickB, List.filterMap_cons, List.filterMap_nil, List.getElem?_toArray, List.getElem?_cons_zero, List.getElem?_cons_succ]; (repeat (first | ((first | (with_reducible refine quietL_plain rfl (fun K hK => ?_)) | (with_reducible refine quietL_want (by with_unfolding_all rfl) (fun K hK => ?_))); (apply Exists.intro; refine ⟨fun wx hx => ?_, ?_⟩; (· (have hcx := ifs_ex hx); simp [go_sem, *, ↓IntWalk.iteOmega] <;> (first | rfl | exact ⟨rfl, rfl⟩ | (with_reducible exact calls_B (calls_below (HF.out _))))); (simp only [Act.put, List.setIfInBounds_toArray, List.set_cons_zero, List.set_cons_succ]; refine hK _ ?_; clear hK K))) | ((with_reducible refine quietL_skip (by with_unfolding_all rfl) ?_); simp only [Act.put, List.setIfInBounds_toArray, List.set_cons_zero, List.set_cons_succ]))); refine quietL_nil ?_)
      (refine anyB_one (i := 10) (by kernel_rfl) rfl rfl ?_; intro w7 hb7 K hK; have hs7 := hb7.size; (try simp at hs7); go_wp2; refine ⟨xs_, ?_⟩)
      (refine anyB_end (by kernel_rfl) ?_; intro w8 hb8; have hs8 := hb8.size; (try simp at hs8); simp only [Calm])
      have hb8' : Below w6.heap.size w6 w8 := bl_
      go_wp2_with fail
      go_ret
      exact ⟨by rw [HV.out]; congr 2 <;> omega, HB6.out.trans (hb8'.mono HB6.out.size)⟩
set_option maxRecDepth 100000 in
set_option maxHeartbeats 2000000 in
theorem mapFI_any (B : Nat) (A : Option Addr) (n c : Nat) (l : List Nat) (w : World) (V : Nat → Int) (hS : SampsOk l V) (m bn ba : Nat) (amp : Int) (h1 : Blk w bn 3 #[.int .i64 (m : Int)]) (h2 : Blk w ba 3 #[.int .i64 amp]) (hm : m ≤ 17) (hamp : 1 ≤ amp ∧ amp ≤ 16384) (hr : Reads w B 1 A n (l.map (Value.float .f32))) (hB : B ≤ w.heap.size) (hn : n ≤ 1000) :
    Calls Tryz.prog 66 #[.slice A n c, .func (.func 67) #[] #[.pointer (some ⟨bn, 0, none⟩), .pointer (some ⟨ba, 0, none⟩)]] w (MapRes 3 w (l.map fun x => Value.int .i64 (levI m amp (V x)))) := by
  obtain ⟨hl, ha⟩ := enc_at hr
  have HL := Lib.hid hl
  have HA := Lib.hid ha
  clear hl ha hr
  have H1 := Lib.hid h1
  have H2 := Lib.hid h2
  clear h1 h2
  go_enter Tryz.func66, Tryz.ntmps66
  go_wp2_with fail
  go_loopw [5, 7, 10] (fun v s7 i wr => ∃ k : Nat, k ≤ n ∧ i = .int .i64 k ∧ wr.ownsRow w.heap.size 3 1 v k ((l.take k).map fun x => Value.int .i64 (levI m amp (V x))) ∧ Below w.heap.size w wr) (fun _ _ i _ => n - (intOf i).toNat)
  case atStart => exact ⟨0, by omega, rfl, World.ownsRow_nil _ _ _ _, bl_⟩
  case round =>
    obtain ⟨k, hk, rfl, hO, hb⟩ := hrel
    have HO := Lib.hid hO
    clear hO
    have hs := hb.size
    by_cases hlt : k < n
    · have hkl : k < l.length := by rw [HL.out]; exact hlt
      obtain ⟨b, o, eA, hbb, z0⟩ := HA.out k hkl
      have kb : ∀ i, wr.cell? ⟨b, i, none⟩ = w.cell? ⟨b, i, none⟩ := fun i => hb.cell (p := ⟨b, i, none⟩) (by simp; omega)
      rw [← kb] at z0
      clear kb
      have hbw : b < wr.heap.size := by omega
      subst eA
      have hmem := List.getElem_mem hkl
      have Hd : Hid (((l.take (k + 1)).map fun x => Value.int .i64 (levI m amp (V x))) = ((l.take k).map fun x => Value.int .i64 (levI m amp (V x))) ++ [(fun x => Value.int .i64 (levI m amp (V x))) l[k]]) := by
        show _ = _
        rw [List.take_succ_eq_append_getElem hkl, List.map_append]; rfl
      generalize l[k] = x at *
      obtain ⟨px, hpx⟩ := hS x hmem
      have HCx := Lib.hid (levels1_any x px (V x) amp m bn ba wr hpx (H1.out.kept hb) (H2.out.kept hb) hm hamp)
      clear hpx hmem
      go_wp2_with (first | (go_at_call 67; refine (HCx.out).mono ?_; rintro e w1 ⟨rfl, hb1⟩; have hs1 := hb1.size; have HO1 := Lib.hid (own_kept HO.out hb1)) | (at_builtin; refine wpList_app 30 3 1 8 elemInt rfl (.tmp 14) (.tmp 18) rfl w.heap.size _ k _ rfl HO1.out 1 rfl rfl ?h1 (by decide) ?h3 (by omega) (by omega) ?_))
      case h1 => rfl
      case h3 => unfold maxLen; omega
      intro g' cap' w' hown' hb' _ hs'
      go_wp2
      go_roundw
      case rel => exact ⟨k + 1, by omega, by go_num, by rw [Hd.out]; simpa using hown', (hb.trans (hb1.mono hs)).trans hb'⟩
      case measure => simp [intOf]; omega
    · obtain rfl : k = n := by omega
      have HL2 := Lib.hid HL.out
      go_wp2
      go_ret
      refine ⟨_, rfl, ?_, hb⟩
      have := HO.out
      rw [List.take_of_length_le (by rw [HL2.out]; exact Nat.le_refl _)] at this
      rw [List.length_map, HL2.out]
      exact this
/-- The levels' answer. -/
def LevRes (w : World) (zs : List Int) (e : Ending) (w' : World) : Prop := ∃ v, e = .returned (.tuple #[v, .int .i64 0]) ∧ w'.ownsRow w.heap.size 3 1 v zs.length (zs.map (.int .i64)) ∧ Below w.heap.size w w'
theorem first_zeros : ∀ l : List Nat, firstE (l.map fun _ => (0 : Int)) = 0
  | [] => rfl
  | _ :: r => by rw [List.map_cons, firstE_cons, first_zeros r]; rfl
set_option maxRecDepth 100000 in
set_option maxHeartbeats 4000000 in
theorem Levels_ok (B B2 : Nat) (A A2 : Option Addr) (n c n2 c2 : Nat) (a : Ar) (l : List Nat) (amp : Int) (V : Nat → Int) (w : World) (hM : MsAt w B A n a.m) (hB : B ≤ w.heap.size) (hF : FitA a) (hnc : n ≤ c) (hE : armE a = 0) (hO : Reads w B2 1 A2 n2 (l.map (Value.float .f32))) (hB2 : B2 ≤ w.heap.size) (hn2 : n2 ≤ 256) (hS : SampsOk l V) (hamp : 1 ≤ amp ∧ amp ≤ 16384) :
    Calls Tryz.prog 9 #[.agg #[.slice A n c, .int .i64 a.lo, .int .i64 a.hi, .int .i64 a.cur, .int .i64 a.lim], .slice A2 n2 c2, .int .i64 amp] w (LevRes w (l.map fun x => levI (usL a).length amp (V x))) := by
  have hl := (md_at hM).1
  have h17 := hF.len
  have hl2 := (enc_at hO).1
  have HC := Lib.hid (fun W (hW : Below w.heap.size w W) => CheckArm_any B A n c a W (hM.below (hW.mono hB)) (by have := hW.size; omega) hF hnc)
  rw [hE] at HC
  have HJ := Lib.hid (fun W (hW : Below w.heap.size w W) => indices_any 65 #[] #[] B A n c a (fun _ => true) W (hM.below (hW.mono hB)) (by have := hW.size; omega) (by omega) (enters_of Tryz.func65 (by kernel_rfl) rfl) (fun W' _ x _ => all_any x W'))
  rw [idxs_all a] at HJ
  have hul : (usL a).length ≤ 17 := by
    have h1 := idxs_len usB a.m 0
    have h2 : (usL a).length = (idxs usB 0 a.m).length := rfl
    omega
  have HM1 := Lib.hid (fun W (hW : Below w.heap.size w W) => mapFE_any B2 A2 n2 c2 l W V hS (hO.below (hW.mono hB2)) (by have := hW.size; omega) (by omega))
  have HM2 := Lib.hid (fun W bn ba (hW : Below w.heap.size w W) h1 h2 => mapFI_any B2 A2 n2 c2 l W V hS (usL a).length bn ba amp h1 h2 hul hamp (hO.below (hW.mono hB2)) (by have := hW.size; omega) (by omega))
  have hq256 : decide ((256 : Int) < (n2 : Int)) = false := decide_eq_false (by omega)
  unfold IdRes at HJ
  clear hM hO hF hS
  go_enter Tryz.func9, Tryz.ntmps9
  go_wp2_with fail
  refine (HC.out _ bl_).mono ?_
  rintro e w1 ⟨rfl, hb1⟩
  have hs1 := hb1.size
  simp at hs1
  have bA : Blk w1 w.heap.size 36 #[.slice A n c, .int .i64 a.lo, .int .i64 a.hi, .int .i64 a.cur, .int .i64 a.lim] := bk_
  have bP : Blk w1 (w.heap.size + 1) 3 #[.int .i64 amp] := bk_
  have hlow : Below w.heap.size w w1 := bl_
  have HL1 := Lib.hid hlow
  have cA := bA.cell
  have lA := bA.lt
  have cP := bP.cell
  have lP := bP.lt
  clear hb1 hlow HC
  go_wp2_with fail
  refine (awhen_any false 5 _).mono ?_
  rintro e w2 ⟨rfl, rfl⟩
  have hw5 : whenE false 5 = 0 := rfl
  rw [hw5]
  go_wp2_with fail
  refine (afirst_any (w1.heap.size + 1) _ 2 2 [0, 0] _ (by simpa using Reads.new (size := 1) w1 ((([0, 0] : List Int)).map (.int .i64)).toArray 31 2 rfl) (by unfold maxLen; decide)).mono ?_
  rintro e w3 ⟨rfl, rfl⟩
  have hf0 : firstE [0, 0] = 0 := rfl
  rw [hf0]
  go_upto_region 4 with fail
  refine wp_world ?_
  intro W4 hW4
  have hb4 : Below w1.heap.size w1 W4 := by rw [hW4]; exact bl_
  clear hW4 cA lA cP lP
  have bA4 := bA.kept hb4
  have bP4 := bP.kept hb4
  have HL4 := Lib.hid (HL1.out.trans (hb4.mono (by omega)))
  have cP := bP4.cell
  have lP := bP4.lt
  have hs4 := hb4.size
  clear bA bP hb4
  (refine wp_region_calm [] [0, 3] 6 (by kernel_rfl) rfl (by kernel_rfl) (by kernel_rfl) (by kernel_rfl) ?_; simp only [pickB, List.filterMap_cons, List.filterMap_nil, List.getElem?_toArray, List.getElem?_cons_zero, List.getElem?_cons_succ]; (repeat (first | ((first | (with_reducible refine quietL_plain rfl (fun K hK => ?_)) | (with_reducible refine quietL_want (by with_unfolding_all rfl) (fun K hK => ?_))); (apply Exists.intro; refine ⟨fun wx hx => ?_, ?_⟩; (· (have hcx := ifs_ex hx); simp [go_sem, *, ↓IntWalk.iteOmega] <;> (first | rfl | exact ⟨rfl, rfl⟩ | fail)); (simp only [Act.put, List.setIfInBounds_toArray, List.set_cons_zero, List.set_cons_succ]; refine hK _ ?_; clear hK K))) | ((with_reducible refine quietL_skip (by with_unfolding_all rfl) ?_); simp only [Act.put, List.setIfInBounds_toArray, List.set_cons_zero, List.set_cons_succ]))); refine quietL_nil ?_)
  (refine anyB_one (i := 1) (by kernel_rfl) rfl rfl ?_; intro w5 hb5 K hK; have hs5 := hb5.size; (try simp at hs5); go_wp2_with fail)
  refine (HM1.out _ (HL4.out.trans (hb5.mono HL4.out.size))).mono ?_
  rintro e w6 ⟨v6, rfl, hr6, hb6⟩
  obtain ⟨A6, c6, rfl, _, hc6, hrd6⟩ := own_form hr6
  have hs6 := hb6.size
  have el : (l.map fun x => Value.int .i64 ((fun _ : Nat => (0 : Int)) x)).length = n2 := by rw [List.length_map, hl2]
  have es : (l.map fun x => Value.int .i64 ((fun _ : Nat => (0 : Int)) x)) = (l.map fun _ => (0 : Int)).map (.int .i64) := by rw [List.map_map]; rfl
  rw [el] at hrd6
  rw [es] at hrd6
  rw [el]
  have HRd6 := Lib.hid hrd6
  clear hr6 hrd6 el es
  (go_wp2; refine ⟨xs_, ?_⟩)
  (refine anyB_one (i := 2) (by kernel_rfl) rfl rfl ?_; intro w7 hb7 K hK; have hs7 := hb7.size; (try simp at hs7); go_wp2_with fail)
  refine (afirst_any _ A6 n2 c6 (l.map fun _ => (0 : Int)) w7 (HRd6.out.below hb7) (by unfold maxLen; omega)).mono ?_
  rw [first_zeros]
  rintro e w8 ⟨rfl, rfl⟩
  (go_wp2; refine ⟨xs_, ?_⟩)
  have hwi : ckR amp 1 16384 = 0 := ckR_yes ⟨hamp.1, hamp.2⟩
  (refine anyB_quiet_at (by kernel_rfl) calm_panic xs_ 3 [4] _ _ (by kernel_rfl) (by decide +kernel) ?_; simp only [pickB, List.filterMap_cons, List.filterMap_nil, List.getElem?_toArray, List.getElem?_cons_zero, List.getElem?_cons_succ]; (repeat (first | ((first | (with_reducible refine quietL_plain rfl (fun K hK => ?_)) | (with_reducible refine quietL_want (by with_unfolding_all rfl) (fun K hK => ?_))); (apply Exists.intro; refine ⟨fun wx hx => ?_, ?_⟩; (· (have hcx := ifs_ex hx); simp [go_sem, *, ↓IntWalk.iteOmega] <;> (first | rfl | exact ⟨rfl, rfl⟩ | (with_reducible exact calls_B (calls_below (awithin_any _ _ _ _))))); (simp only [Act.put, List.setIfInBounds_toArray, List.set_cons_zero, List.set_cons_succ]; refine hK _ ?_; clear hK K))) | ((with_reducible refine quietL_skip (by with_unfolding_all rfl) ?_); simp only [Act.put, List.setIfInBounds_toArray, List.set_cons_zero, List.set_cons_succ]))); refine quietL_nil ?_)
  rw [hwi]
  (refine anyB_one (i := 5) (by kernel_rfl) rfl rfl ?_; intro w9 hb9 K hK; have hs9 := hb9.size; (try simp at hs9); go_wp2; refine ⟨xs_, ?_⟩)
  (refine anyB_one (i := 6) (by kernel_rfl) rfl rfl ?_; intro w10 hb10 K hK; obtain ⟨hc10, hf10⟩ := ifs_of hb10; have hs10 := hb10.size; (try simp at hs10); go_wp2_with fail; refine (afirst_any (w9.heap.size + 1) _ 2 2 [0, 0] _ ((by simpa using Reads.new (size := 1) w9 (([0, 0]).map (.int .i64)).toArray 31 2 rfl : Reads (w9.alloc (.cells (([0, 0]).map (.int .i64)).toArray 31)) (w9.heap.size + 1) 1 (some ⟨w9.heap.size, 0, none⟩) 2 (([0, 0]).map (.int .i64))).below (hb10.mono (by simp))) (by unfold maxLen; decide)).mono ?_; rintro e w10' ⟨rfl, rfl⟩; go_wp2; refine ⟨xs_, ?_⟩)
  (refine anyB_one (i := 7) (by kernel_rfl) rfl rfl ?_; intro w11 hb11 K hK; have hs11 := hb11.size; (try simp at hs11); go_wp2; refine ⟨xs_, ?_⟩)
  (refine anyB_end (by kernel_rfl) ?_; intro w12 hb12; have hs12 := hb12.size; (try simp at hs12); simp only [Calm])
  have hb412 : Below W4.heap.size W4 w12 := bl_
  have bA12 := bA4.kept hb412
  have bP12 := bP4.kept hb412
  have HL12 := Lib.hid (HL4.out.trans (hb412.mono HL4.out.size))
  have cA := bA12.cell
  have lA := bA12.lt
  clear cP lP bA4 bP4 hb412 hb5 hb6 hb7 hb9 hb10 hb11 hb12 hc10 hf10
  go_wp2_with fail
  refine (HJ.out _ HL12.out).mono ?_
  rintro e w13 ⟨v13, rfl, hr13, hb13⟩
  obtain ⟨A13, c13, rfl, _, _, _⟩ := own_form hr13
  have hs13 := hb13.size
  have hs12 := HL12.out.size
  have bP13 := bP12.kept hb13
  have hal : Below w13.heap.size w13 (w13.alloc (.cells #[.int .i64 ((usL a).length : Int)] 3)) := (Below.refl _ _).alloc (Nat.le_refl _) _
  have HL13 := Lib.hid ((HL12.out.trans (hb13.mono hs12)).trans (hal.mono (by omega)))
  have HM3 := Lib.hid (HM2.out _ w13.heap.size (w.heap.size + 1) HL13.out (Blk.new w13 3 #[.int .i64 ((usL a).length : Int)]) (bP13.kept hal))
  clear hr13 hb13 hal bP13 bP12 bA12 cA lA
  go_wp2_with fail
  refine HM3.out.mono ?_
  rintro e w14 ⟨v14, rfl, hr14, hb14⟩
  have HR14 := Lib.hid hr14
  have HB14 := Lib.hid hb14
  clear hr14 hb14
  go_wp2_with fail
  go_ret2
  refine ⟨v14, rfl, ?_, HL13.out.trans (HB14.out.mono (by simp; omega))⟩
  have := row_base (base' := w.heap.size) HR14.out (by simp; omega)
  rw [List.length_map] at this
  rw [List.length_map, List.map_map]
  exact this
end Go.Proofs.YtjanojmgnpfjeaaGreatDoor
