/- Outages: the reference's checks. -/
import Derived.Test.YtafnebfchhmgcaaGreatV5
namespace Go.Proofs.YtafnebfchhmgcaaGreat
open Go Go.RowKit Go.Sort Go.Shelf
set_option linter.unusedSimpArgs false
set_option linter.unusedVariables false
attribute [local go_sem] cell_if frozen_if grow_cell
/-- An outage. -/
structure Ot where
  t : Int
  h : Int
  c : Int
def Ot.cells (x : Ot) : List Value := [.int .i64 x.t, .int .i64 x.h, .int .i64 x.c]
def ots (l : List Ot) : List Value := l.flatMap Ot.cells
theorem ot_at {w : World} {B n : Nat} {A : Option Addr} {l : List Ot} (h : Reads w B 3 A n (ots l)) : l.length = n ∧ ∀ k, (hk : k < l.length) → ∃ b o, A = some ⟨b, o, none⟩ ∧ b < B ∧ w.cell? ⟨b, o + k * 3, none⟩ = some (.int .i64 l[k].t) ∧ w.cell? ⟨b, o + k * 3 + 1, none⟩ = some (.int .i64 l[k].h) ∧ w.cell? ⟨b, o + k * 3 + 2, none⟩ = some (.int .i64 l[k].c) := by
  obtain ⟨h1, h2⟩ := flat_at (f := Ot.cells) (fun _ => rfl) (by decide) h
  refine ⟨h1, fun k hk => ?_⟩
  obtain ⟨b, o, e, hb, hc⟩ := h2 k hk
  exact ⟨b, o, e, hb, hc 0 _ rfl, hc 1 _ rfl, hc 2 _ rfl⟩
/-- The error of the outage at an index. -/
def otE (l : List Ot) : Nat → Int
  | 0 => match l[0]? with
    | some x => firstE [ckR x.t 0 100000, ckR x.h 0 100, ckR x.c 0 1000000, 0]
    | none => 0
  | j + 1 => match l[j]?, l[j + 1]? with
    | some y, some x => firstE [ckR x.t 0 100000, ckR x.h 0 100, ckR x.c 0 1000000, whenE (decide (x.t ≤ y.t)) 11]
    | _, _ => 0
def outE (l : List Ot) : Int := firstE ((List.range l.length).map (otE l))
set_option maxRecDepth 100000 in
set_option maxHeartbeats 1000000 in
theorem rShortO_any (A : Option Addr) (n c : Nat) (w : World) (hn : n ≤ maxLen) : Calls Tryz.prog 29 #[.slice A n c] w fun e w' => e = .returned (.bool (decide (n ≤ 4) || n == 7)) ∧ Below w.heap.size w w' := by
  unfold maxLen at hn
  by_cases h : n ≤ 4
  · have h1 : decide ((n : Int) ≤ 4) = true := by simp; omega
    have h2 : (n : Int) ≤ 4 := by omega
    have h3 : decide (n ≤ 4) = true := by simpa using h
    go_enter Tryz.func29, Tryz.ntmps29
    go_wp2_with fail
    go_ret
    exact ⟨by first | rfl | (rw [h3]; rfl) | simp [h3], bl_⟩
  · have h1 : decide ((n : Int) ≤ 4) = false := by simp; omega
    have h2 : ¬ (n : Int) ≤ 4 := by omega
    have h3 : decide (n ≤ 4) = false := by simpa using h
    have h4 : ((n : Int) == 7) = (n == 7) := by rw [Bool.eq_iff_iff]; simp; omega
    go_enter Tryz.func29, Tryz.ntmps29
    go_wp2_with fail
    go_ret
    exact ⟨by first | rfl | (rw [h3]; rfl) | simp [h3, h4], bl_⟩
theorem CheckTick_any (z : Int) (w : World) : Calls Tryz.prog 82 #[.int .i64 z] w fun e w' => e = .returned (.int .i64 (ckR z 0 100000)) ∧ w = w' := by
  go_enter Tryz.func82, Tryz.ntmps82
  go_wp2_with fail
  refine (rRange_any _ _ _ _).mono ?_
  rintro e w1 ⟨rfl, rfl⟩
  go_wp2_with fail
  go_ret
  exact ⟨rfl, rfl⟩
theorem firstE_app {l r : List Int} (h : firstE l = 0) : firstE (l ++ r) = firstE r := by
  unfold firstE at h ⊢
  rw [List.find?_append]
  cases hf : l.find? (· != 0) with
  | none => rfl
  | some y =>
    have h1 := List.find?_some hf
    rw [hf] at h
    simp at h1 h
    exact absurd h h1
theorem firstE_one (x : Int) : firstE [x] = x := by
  unfold firstE
  by_cases h : x = 0 <;> simp [h]
def otP (l : List Ot) (k : Nat) : Int := firstE ((List.range k).map (otE l))
theorem otP_succ {l : List Ot} {k : Nat} (h : otP l k = 0) : otP l (k + 1) = otE l k := by
  unfold otP at h ⊢
  rw [List.range_succ, List.map_append, firstE_app h]
  exact firstE_one _
theorem otP_no {l : List Ot} {k n : Nat} (hk : k < n) (h : otP l k = 0) (h2 : otE l k ≠ 0) : otP l n = otE l k := by
  obtain ⟨d, rfl⟩ := Nat.exists_eq_add_of_lt hk
  have h1 := otP_succ h
  unfold otP at h1 ⊢
  rw [show k + d + 1 = (k + 1) + d by omega, List.range_add, List.map_append]
  unfold firstE at h1 ⊢
  rw [List.find?_append]
  cases hf : ((List.range (k + 1)).map (otE l)).find? (· != 0) with
  | none => rw [hf] at h1; exact absurd h1.symm h2
  | some y => rw [hf] at h1; exact h1
set_option maxRecDepth 100000 in
set_option maxHeartbeats 4000000 in
theorem rCheckO_any (B : Nat) (A : Option Addr) (n c : Nat) (l : List Ot) (w : World) (hr : Reads w B 3 A n (ots l)) (hB : B ≤ w.heap.size) (hn : n ≤ 6) :
    Calls Tryz.prog 30 #[.slice A n c] w fun e w' => e = .returned (.int .i64 (outE l)) ∧ Below w.heap.size w w' := by
  obtain ⟨hl, ha⟩ := ot_at hr
  have HL := Lib.hid hl
  have HA := Lib.hid ha
  have HO : Hid (outE l = otP l n) := Lib.hid (by unfold outE otP; rw [hl])
  have hno : ¬ ((n : Int) > 6) := by omega
  have hno2 : ¬ (6 < (n : Int)) := by omega
  clear hl ha hr
  go_enter Tryz.func30, Tryz.ntmps30
  go_wp2_with fail
  go_loopw [3, 4] (fun s3 s4 wr => ∃ (k : Nat) (x : Value), k ≤ n ∧ s3 = .int .i64 (k : Int) ∧ s4 = x ∧ otP l k = 0 ∧ Below w.heap.size w wr) (fun s3 _ _ => n - (intOf s3).toNat)
  case atStart => exact ⟨0, _, by omega, rfl, rfl, rfl, Below.refl _ _⟩
  case round =>
    obtain ⟨k, x, hk, rfl, rfl, h0, hb⟩ := hrel
    have HP := Lib.hid h0
    have HB := Lib.hid hb
    have hs := hb.size
    clear h0 hb
    by_cases hlt : k < n
    · have hkl : k < l.length := by rw [HL.out]; exact hlt
      have hdk : decide ((k : Int) < (n : Int)) = true := by simp; omega
      obtain ⟨b, o, eA, hbb, z0, z1, z2⟩ := HA.out k hkl
      have kb : ∀ i, wr.cell? ⟨b, i, none⟩ = w.cell? ⟨b, i, none⟩ := fun i => HB.out.cell (p := ⟨b, i, none⟩) (by simp; omega)
      rw [← kb] at z0 z1 z2
      have hbw : b < wr.heap.size := by omega
      have hES : Hid (∀ e, otE l k = e → (e = 0 → otP l (k + 1) = 0) ∧ (e ≠ 0 → outE l = e)) := Lib.hid (fun e he => ⟨fun h => (otP_succ HP.out).trans (he.trans h), fun h => by rw [HO.out, otP_no hlt HP.out (by rw [he]; exact h)]; exact he⟩)
      rcases Nat.eq_zero_or_pos k with rfl | hk0
      · skip
        as_aux_lemma =>
          have hE : otE l 0 = firstE [ckR l[0].t 0 100000, ckR l[0].h 0 100, ckR l[0].c 0 1000000, 0] := by unfold otE; rw [List.getElem?_eq_getElem hkl]
          have HE := Lib.hid (hES.out _ hE)
          generalize l[0] = y at *
          obtain ⟨yt, yh, yc⟩ := y
          dsimp only at z0 z1 z2 HE
          clear hE kb
          obtain ⟨e1, he1⟩ : ∃ e, ckR yt 0 100000 = e := ⟨_, rfl⟩
          obtain ⟨e2, he2⟩ : ∃ e, ckR yh 0 100 = e := ⟨_, rfl⟩
          obtain ⟨e3, he3⟩ : ∃ e, ckR yc 0 1000000 = e := ⟨_, rfl⟩
          rw [he1, he2, he3] at HE
          have HE1 := Lib.hid he1
          have HE2 := Lib.hid he2
          have HE3 := Lib.hid he3
          clear he1 he2 he3
          simp only [Nat.zero_mul, Nat.add_zero] at z0 z1 z2
          subst eA
          go_upto_region 6 with fail
          go_cut [4] (fun s4 wx => s4 = .int .i64 (firstE [e1, e2, e3, 0]) ∧ Below wr.heap.size wr wx)
          case first =>
            as_aux_lemma =>
              go_wp2_with fail
              (refine wp_region_calm [] [0, 1, 2, 3, 4, 5, 6, 7, 8, 9, 10, 11, 12, 13, 14, 15, 16, 17, 18, 19, 20, 21, 22, 23, 24, 25, 26, 27, 28, 29, 30, 31, 32, 33, 34, 35] 3 (by kernel_rfl) rfl (by kernel_rfl) (by kernel_rfl) (by kernel_rfl) ?_; simp only [pickB, List.filterMap_cons, List.filterMap_nil, List.getElem?_toArray, List.getElem?_cons_zero, List.getElem?_cons_succ]; (repeat (first | ((first | (with_reducible refine quietL_plain rfl (fun K hK => ?_)) | (with_reducible refine quietL_want (by with_unfolding_all rfl) (fun K hK => ?_))); (apply Exists.intro; refine ⟨fun wx hx => ?_, ?_⟩; (· (have hcx := ifs_ex hx); simp [go_sem, *, ↓IntWalk.iteOmega] <;> (first | rfl | exact ⟨rfl, rfl⟩ | (first | (with_reducible exact calls_B (calls_below (CheckTick_any _ _))) | (with_reducible exact calls_B (calls_below (rRange_any _ _ _ _))) | (with_reducible exact calls_B (calls_below (rWhen_any _ _ _)))))); (simp only [Act.put, List.setIfInBounds_toArray, List.set_cons_zero, List.set_cons_succ]; refine hK _ ?_; clear hK K))) | ((with_reducible refine quietL_skip (by with_unfolding_all rfl) ?_); simp only [Act.put, List.setIfInBounds_toArray, List.set_cons_zero, List.set_cons_succ]))); refine quietL_nil ?_)
              rw [HE1.out, HE2.out, HE3.out]
              (try rw [show whenE false 11 = 0 from rfl])
              refine anyB_one (i := 36) (by kernel_rfl) rfl rfl ?_
              intro w1 hb1 K hK
              have HP1 := Lib.hid (hb1.trans (((Below.refl _ _).alloc (Nat.le_refl _) (.cells #[.int .i64 e1, .int .i64 e2, .int .i64 e3, .int .i64 (0)] 3)).mono hb1.size))
              have HF := Lib.hid (Blk.new w1 3 #[.int .i64 e1, .int .i64 e2, .int .i64 e3, .int .i64 (0)])
              go_wp2
              refine ⟨Ex.of_below HP1.out, ?_⟩
              clear hb1
              refine anyB_one (i := 37) (by kernel_rfl) rfl rfl ?_
              intro w2 hb2 K hK
              have HP2 := Lib.hid (HP1.out.trans (hb2.mono HP1.out.size))
              have HF2 := HF.out.kept hb2
              have hr2 : Reads w2 (w1.heap.size + 1) 1 (some ⟨w1.heap.size, 0, none⟩) 4 (([e1, e2, e3, 0] : List Int).map (.int .i64)) := Reads.blk HF2 rfl
              go_wp2_with fail
              refine (rFirst_any _ _ 4 4 [e1, e2, e3, 0] w2 hr2 (by unfold maxLen; omega)).mono ?_
              rintro e w3 ⟨rfl, rfl⟩
              go_wp2
              have hx2 := Ex.of_below (X := []) HP2.out
              refine ⟨hx2, ?_⟩
              clear hb2
              (refine anyB_one (i := 38) (by kernel_rfl) rfl rfl ?_; intro w4 hb4 K hK; have hs4 := hb4.size; (try simp at hs4); go_wp2; refine ⟨xs_, ?_⟩)
              (refine anyB_end (by kernel_rfl) ?_; intro w5 hb5; have hs5 := hb5.size; (try simp at hs5); simp only [Calm])
              have HP5 := Lib.hid ((HP2.out.trans (hb4.mono HP2.out.size)).trans (hb5.mono (by have := HP2.out.size; omega)))
              go_wp2_with fail
              go_meet
              case rel => exact ⟨rfl, HP5.out⟩
          rename World => W2
          obtain ⟨rfl, hb⟩ := hcut
          have HB2 := Lib.hid (HB.out.trans (hb.mono hs))
          clear hb
          generalize firstE [e1, e2, e3, 0] = er at *
          by_cases h0 : er = 0
          · subst h0
            have HN := Lib.hid (HE.out.1 rfl)
            go_wp2_with fail
            go_roundw
            case rel => exact ⟨_, _, by omega, by go_num, rfl, HN.out, HB2.out⟩
            case measure => simp [intOf]; omega
          · have hne : (er != 0) = true := by simpa using h0
            have HN := Lib.hid (HE.out.2 h0)
            go_wp2_with fail
            go_ret
            exact ⟨by rw [HN.out]; rfl, HB2.out⟩
      · skip
        as_aux_lemma =>
          obtain ⟨j, rfl⟩ : ∃ j, k = j + 1 := ⟨k - 1, by omega⟩
          have hjl : j < l.length := by omega
          have hE : otE l (j + 1) = firstE [ckR l[j + 1].t 0 100000, ckR l[j + 1].h 0 100, ckR l[j + 1].c 0 1000000, whenE (decide (l[j + 1].t ≤ l[j].t)) 11] := by
            show (match l[j]?, l[j + 1]? with | some y, some x => firstE [ckR x.t 0 100000, ckR x.h 0 100, ckR x.c 0 1000000, whenE (decide (x.t ≤ y.t)) 11] | _, _ => 0) = _
            rw [List.getElem?_eq_getElem hkl, List.getElem?_eq_getElem hjl]
          obtain ⟨b', o', eA', _, y0, _, _⟩ := HA.out j hjl
          rw [eA] at eA'
          cases eA'
          rw [← kb] at y0
          have HE := Lib.hid (hES.out _ hE)
          generalize l[j + 1] = y at *
          generalize l[j].t = pt at *
          obtain ⟨yt, yh, yc⟩ := y
          dsimp only at z0 z1 z2 HE
          clear hE kb
          obtain ⟨e1, he1⟩ : ∃ e, ckR yt 0 100000 = e := ⟨_, rfl⟩
          obtain ⟨e2, he2⟩ : ∃ e, ckR yh 0 100 = e := ⟨_, rfl⟩
          obtain ⟨e3, he3⟩ : ∃ e, ckR yc 0 1000000 = e := ⟨_, rfl⟩
          rw [he1, he2, he3] at HE
          have HE1 := Lib.hid he1
          have HE2 := Lib.hid he2
          have HE3 := Lib.hid he3
          clear he1 he2 he3
          have hwj : IntKind.i64.wrap (j : Int) = (j : Int) := wrap_nat (by omega)
          have hj0 : (0 : Int) < (j : Int) + 1 := by omega
          have hj1 : decide ((0 : Int) < (j : Int) + 1) = true := decide_eq_true hj0
          have hj2 : (0 : Int) ≤ (j : Int) := by omega
          have hj3 : ¬ (j : Int) < 0 := by omega
          subst eA
          go_upto_region 6 with fail
          go_cut [4] (fun s4 wx => s4 = .int .i64 (firstE [e1, e2, e3, whenE (decide (yt ≤ pt)) 11]) ∧ Below wr.heap.size wr wx)
          case first =>
            as_aux_lemma =>
              go_wp2_with fail
              (refine wp_region_calm [] [0, 1, 2, 3, 4, 5, 6, 7, 8, 9, 10, 11, 12, 13, 14, 15, 16, 17, 18, 19, 20, 21, 22, 23, 24, 25, 26, 27, 28, 29, 30, 31, 32, 33, 34, 35] 3 (by kernel_rfl) rfl (by kernel_rfl) (by kernel_rfl) (by kernel_rfl) ?_; simp only [pickB, List.filterMap_cons, List.filterMap_nil, List.getElem?_toArray, List.getElem?_cons_zero, List.getElem?_cons_succ]; (repeat (first | ((first | (with_reducible refine quietL_plain rfl (fun K hK => ?_)) | (with_reducible refine quietL_want (by with_unfolding_all rfl) (fun K hK => ?_))); (apply Exists.intro; refine ⟨fun wx hx => ?_, ?_⟩; (· (have hcx := ifs_ex hx); simp [go_sem, *, ↓IntWalk.iteOmega] <;> (first | rfl | exact ⟨rfl, rfl⟩ | (first | (with_reducible exact calls_B (calls_below (CheckTick_any _ _))) | (with_reducible exact calls_B (calls_below (rRange_any _ _ _ _))) | (with_reducible exact calls_B (calls_below (rWhen_any _ _ _)))))); (simp only [Act.put, List.setIfInBounds_toArray, List.set_cons_zero, List.set_cons_succ]; refine hK _ ?_; clear hK K))) | ((with_reducible refine quietL_skip (by with_unfolding_all rfl) ?_); simp only [Act.put, List.setIfInBounds_toArray, List.set_cons_zero, List.set_cons_succ]))); refine quietL_nil ?_)
              rw [HE1.out, HE2.out, HE3.out]
              skip
              refine anyB_one (i := 36) (by kernel_rfl) rfl rfl ?_
              intro w1 hb1 K hK
              have HP1 := Lib.hid (hb1.trans (((Below.refl _ _).alloc (Nat.le_refl _) (.cells #[.int .i64 e1, .int .i64 e2, .int .i64 e3, .int .i64 (whenE (decide (yt ≤ pt)) 11)] 3)).mono hb1.size))
              have HF := Lib.hid (Blk.new w1 3 #[.int .i64 e1, .int .i64 e2, .int .i64 e3, .int .i64 (whenE (decide (yt ≤ pt)) 11)])
              go_wp2
              refine ⟨Ex.of_below HP1.out, ?_⟩
              clear hb1
              refine anyB_one (i := 37) (by kernel_rfl) rfl rfl ?_
              intro w2 hb2 K hK
              have HP2 := Lib.hid (HP1.out.trans (hb2.mono HP1.out.size))
              have HF2 := HF.out.kept hb2
              have hr2 : Reads w2 (w1.heap.size + 1) 1 (some ⟨w1.heap.size, 0, none⟩) 4 (([e1, e2, e3, whenE (decide (yt ≤ pt)) 11] : List Int).map (.int .i64)) := Reads.blk HF2 rfl
              go_wp2_with fail
              refine (rFirst_any _ _ 4 4 [e1, e2, e3, whenE (decide (yt ≤ pt)) 11] w2 hr2 (by unfold maxLen; omega)).mono ?_
              rintro e w3 ⟨rfl, rfl⟩
              go_wp2
              have hx2 := Ex.of_below (X := []) HP2.out
              refine ⟨hx2, ?_⟩
              clear hb2
              (refine anyB_one (i := 38) (by kernel_rfl) rfl rfl ?_; intro w4 hb4 K hK; have hs4 := hb4.size; (try simp at hs4); go_wp2; refine ⟨xs_, ?_⟩)
              (refine anyB_end (by kernel_rfl) ?_; intro w5 hb5; have hs5 := hb5.size; (try simp at hs5); simp only [Calm])
              have HP5 := Lib.hid ((HP2.out.trans (hb4.mono HP2.out.size)).trans (hb5.mono (by have := HP2.out.size; omega)))
              go_wp2_with fail
              go_meet
              case rel => exact ⟨rfl, HP5.out⟩
          rename World => W2
          obtain ⟨rfl, hb⟩ := hcut
          have HB2 := Lib.hid (HB.out.trans (hb.mono hs))
          clear hb
          generalize firstE [e1, e2, e3, whenE (decide (yt ≤ pt)) 11] = er at *
          by_cases h0 : er = 0
          · subst h0
            have HN := Lib.hid (HE.out.1 rfl)
            go_wp2_with fail
            go_roundw
            case rel => exact ⟨_, _, by omega, by go_num, rfl, HN.out, HB2.out⟩
            case measure => simp [intOf]; omega
          · have hne : (er != 0) = true := by simpa using h0
            have HN := Lib.hid (HE.out.2 h0)
            go_wp2_with fail
            go_ret
            exact ⟨by rw [HN.out]; rfl, HB2.out⟩
    · skip
      as_aux_lemma =>
        obtain rfl : k = n := by omega
        have h6 := HP.out
        rw [← HO.out] at h6
        have H6 := Lib.hid h6
        clear h6
        go_wp2_with fail
        go_ret
        exact ⟨by rw [H6.out]; rfl, HB.out⟩
end Go.Proofs.YtafnebfchhmgcaaGreat
