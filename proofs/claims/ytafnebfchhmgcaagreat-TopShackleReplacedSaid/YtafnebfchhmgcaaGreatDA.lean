/- Leaves of the arm's laws: orders by value, checks of the reference, equal arms. -/
import Derived.Test.YtafnebfchhmgcaaGreatQg
import Derived.Test.YtafnebfchhmgcaaGreatQm
import Derived.Test.YtafnebfchhmgcaaGreatQj
namespace Go.Proofs.YtafnebfchhmgcaaGreat
open Go Go.RowKit Go.Sort Go.Shelf
set_option linter.unusedSimpArgs false
set_option linter.unusedVariables false
attribute [local go_sem] cell_if frozen_if grow_cell
def validA (a : Ar) : Bool := shortA a && decide (a.m.length ≤ 8) && armE a == 0
theorem short_fit {a : Ar} (h : shortA a = true) (hnm : ∀ x ∈ a.m, x.n.size ≤ maxLen) : FitA a := by
  unfold shortA at h
  simp only [Bool.and_eq_true, Bool.or_eq_true, decide_eq_true_eq, beq_iff_eq] at h
  exact ⟨by omega, hnm⟩
def shortO (n : Nat) : Bool := decide (n ≤ 8) || n == 257
set_option maxRecDepth 100000 in
set_option maxHeartbeats 1000000 in
theorem rCheckOrder_any (o : Od) (w : World) : Calls Tryz.prog 112 #[.agg #[.int .i64 o.n, .int .i64 o.c]] w fun e w' => e = .returned (.int .i64 (orderE o)) ∧ Below w.heap.size w w' := by
  have HV : Hid (orderE o = firstE [ckR o.n 0 16, ckR o.c (-1000) 1000]) := Lib.hid rfl
  generalize orderE o = oe at *
  go_enter Tryz.func112, Tryz.ntmps112
  go_wp2_with fail
  (refine wp_region_calm [] [0, 1, 2, 3, 4, 5] 3 (by kernel_rfl) rfl (by kernel_rfl) (by kernel_rfl) (by kernel_rfl) ?_; simp only [pickB, List.filterMap_cons, List.filterMap_nil, List.getElem?_toArray, List.getElem?_cons_zero, List.getElem?_cons_succ]; (repeat (first | ((first | (with_reducible refine quietL_plain rfl (fun K hK => ?_)) | (with_reducible refine quietL_want (by with_unfolding_all rfl) (fun K hK => ?_))); (apply Exists.intro; refine ⟨fun wx hx => ?_, ?_⟩; (· (have hcx := ifs_ex hx); simp [go_sem, *, ↓IntWalk.iteOmega] <;> (first | rfl | exact ⟨rfl, rfl⟩ | (with_reducible exact calls_B (calls_below (rRange_any _ _ _ _))))); (simp only [Act.put, List.setIfInBounds_toArray, List.set_cons_zero, List.set_cons_succ]; refine hK _ ?_; clear hK K))) | ((with_reducible refine quietL_skip (by with_unfolding_all rfl) ?_); simp only [Act.put, List.setIfInBounds_toArray, List.set_cons_zero, List.set_cons_succ]))); refine quietL_nil ?_)
  (refine anyB_one (i := 6) (by kernel_rfl) rfl rfl ?_; intro w2 hb2 K hK; obtain ⟨hc2, hf2⟩ := ifs_of hb2; have hs2 := hb2.size; (try simp at hs2); go_wp2; refine ⟨xs_, ?_⟩)
  (refine anyB_one (i := 7) (by kernel_rfl) rfl rfl ?_; intro w3 hb3 K hK; obtain ⟨hc3, hf3⟩ := ifs_of hb3; have hs3 := hb3.size; (try simp at hs3); go_wp2_with fail; refine (rFirst_any (w2.heap.size + 1) _ 2 2 [ckR o.n 0 16, ckR o.c (-1000) 1000] _ ((by simpa using Reads.new (size := 1) w2 (([ckR o.n 0 16, ckR o.c (-1000) 1000]).map (.int .i64)).toArray 3 2 rfl : Reads (w2.alloc (.cells (([ckR o.n 0 16, ckR o.c (-1000) 1000]).map (.int .i64)).toArray 3)) (w2.heap.size + 1) 1 (some ⟨w2.heap.size, 0, none⟩) 2 (([ckR o.n 0 16, ckR o.c (-1000) 1000]).map (.int .i64))).below (hb3.mono (by simp))) (by unfold maxLen; decide)).mono ?_; rintro e w3' ⟨rfl, rfl⟩; go_wp2; refine ⟨xs_, ?_⟩)
  (refine anyB_one (i := 8) (by kernel_rfl) rfl rfl ?_; intro w4 hb4 K hK; obtain ⟨hc4, hf4⟩ := ifs_of hb4; have hs4 := hb4.size; (try simp at hs4); go_wp2; refine ⟨xs_, ?_⟩)
  (refine anyB_end (by kernel_rfl) ?_; intro w5 hb5; obtain ⟨hc5, hf5⟩ := ifs_of hb5; have hs5 := hb5.size; (try simp at hs5); simp only [Calm])
  go_wp2_with fail
  go_ret
  exact ⟨by rw [HV.out]; rfl, bl_⟩
def rordsE (l : List Od) : Int := if (256 : Int) < (l.length : Int) then 5 else firstE (l.map orderE)
theorem first_drop {l : List Od} {k : Nat} (h : k < l.length) : firstE ((l.drop k).map orderE) = or0 (orderE l[k]) (firstE ((l.drop (k + 1)).map orderE)) := by
  rw [List.drop_eq_getElem_cons h, List.map_cons, firstE_cons]
set_option maxHeartbeats 1000000 in
theorem rCheckOrders_any (B : Nat) (A : Option Addr) (n c : Nat) (l : List Od) (w : World) (hr : Reads w B 2 A n (ods l)) (hB : B ≤ w.heap.size) (hn : n ≤ maxLen) :
    Calls Tryz.prog 46 #[.slice A n c] w fun e w' => e = .returned (.int .i64 (rordsE l)) ∧ Below w.heap.size w w' := by
  obtain ⟨hl, ha⟩ := od_at hr
  have HL := Lib.hid hl
  have HA := Lib.hid ha
  unfold maxLen at hn
  unfold rordsE
  rw [hl]
  clear hl ha hr
  by_cases h6 : (256 : Int) < (n : Int)
  · rw [if_pos h6]
    go_enter Tryz.func46, Tryz.ntmps46
    go_wp2_with fail
    go_ret
    exact ⟨rfl, bl_⟩
  · rw [if_neg h6]
    go_enter Tryz.func46, Tryz.ntmps46
    go_wp2_with fail
    go_loopw [3] (fun i wr => ∃ k : Nat, k ≤ n ∧ i = .int .i64 k ∧ Hid (firstE (l.map orderE) = firstE ((l.drop k).map orderE)) ∧ Below w.heap.size w wr) (fun i _ => n - (intOf i).toNat)
    case atStart => exact ⟨0, by omega, rfl, Lib.hid rfl, bl_⟩
    case round =>
      obtain ⟨k, hk, rfl, hg, hb⟩ := hrel
      have hs := hb.size
      by_cases hlt : k < n
      · have hkl : k < l.length := by rw [HL.out]; exact hlt
        have HD := Lib.hid (hg.out.trans (first_drop hkl))
        obtain ⟨b, o, eA, hbb, hz⟩ := HA.out k hkl
        have kb : ∀ i, wr.cell? ⟨b, i, none⟩ = w.cell? ⟨b, i, none⟩ := fun i => hb.cell (p := ⟨b, i, none⟩) (by simp; omega)
        simp only [← kb] at hz
        clear kb
        have hbw : b < wr.heap.size := by omega
        subst eA
        generalize hx : l[k] = x at *
        obtain ⟨z0, z1⟩ := hz
        have HC := Lib.hid (rCheckOrder_any x wr)
        generalize hoe : orderE x = oe at *
        obtain ⟨on, oc⟩ := x
        dsimp only at z0 z1
        go_wp2_with fail
        refine HC.out.mono ?_
        rintro e w1 ⟨rfl, hb1⟩
        have hs1 := hb1.size
        have HB1 := Lib.hid (hb.trans (hb1.mono hs))
        clear hb1 hb z0 z1
        by_cases h0 : oe = 0
        · subst h0
          go_wp2_with fail
          go_roundw
          case rel => exact ⟨k + 1, by omega, by go_num, Lib.hid (by rw [HD.out, or0_yes]), HB1.out⟩
          case measure => simp [intOf]; omega
        · have hne : (oe != 0) = true := by simpa using h0
          go_wp2_with fail
          go_ret
          exact ⟨by rw [HD.out, or0_no h0]; rfl, HB1.out⟩
      · obtain rfl : k = n := by omega
        go_wp2_with fail
        go_ret
        exact ⟨by rw [hg.out, List.drop_eq_nil_of_le (by rw [HL.out]; exact Nat.le_refl _)]; rfl, hb⟩
theorem elemOd : Elem Tryz.prog 38 45 2 16 := elem_of Tryz.underlying38 (z := .agg #[.int .i64 0, .int .i64 0]) (by kernel_rfl) rfl (by decide)
def OdsRes (w : World) (l : List Od) (n : Nat) (e : Ending) (w' : World) : Prop := ∃ A c, e = .returned (.slice A n c) ∧ Reads w' w'.heap.size 2 A n (ods l) ∧ n ≤ c ∧ Below w.heap.size w w'
set_option maxRecDepth 100000 in
set_option maxHeartbeats 2000000 in
theorem Same_self (B1 B2 : Nat) (A1 A2 : Option Addr) (n c1 c2 : Nat) (a : Ar) (w : World) (h1 : MsAt w B1 A1 n a.m) (h2 : MsAt w B2 A2 n a.m) (hB1 : B1 ≤ w.heap.size) (hB2 : B2 ≤ w.heap.size) (hn : n ≤ 1000) :
    Calls Tryz.prog 25 #[.agg #[.slice A1 n c1, .int .i64 a.lo, .int .i64 a.hi, .int .i64 a.cur, .int .i64 a.lim], .agg #[.slice A2 n c2, .int .i64 a.lo, .int .i64 a.hi, .int .i64 a.cur, .int .i64 a.lim]] w fun e w' => e = .returned (.bool true) ∧ Below w.heap.size w w' := by
  obtain ⟨hl, ha1⟩ := md_at h1
  obtain ⟨_, ha2⟩ := md_at h2
  have HL := Lib.hid hl
  have HA1 := Lib.hid ha1
  have HA2 := Lib.hid ha2
  clear hl ha1 ha2 h1 h2
  obtain ⟨m, lo, hi, cu, li⟩ := a
  dsimp only at *
  go_enter Tryz.func25, Tryz.ntmps25
  go_wp2_with fail
  go_loopw [5] (fun i wr => ∃ k : Nat, k ≤ n ∧ i = .int .i64 k ∧ Below w.heap.size w wr ∧ Blk wr w.heap.size 26 #[.slice A1 n c1, .int .i64 lo, .int .i64 hi, .int .i64 cu, .int .i64 li] ∧ Blk wr (w.heap.size + 1) 26 #[.slice A2 n c2, .int .i64 lo, .int .i64 hi, .int .i64 cu, .int .i64 li]) (fun i _ => n - (intOf i).toNat)
  case atStart => exact ⟨0, by omega, rfl, bl_, bk_, bk_⟩
  case round =>
    obtain ⟨k, hk, rfl, hb, k1, k2⟩ := hrel
    have hs := hb.size
    have d1 := k1.cell
    have d2 := k1.lt
    have d3 := k2.cell
    have d4 := k2.lt
    have K1 := Lib.hid k1
    have K2 := Lib.hid k2
    clear k1 k2
    by_cases hlt : k < n
    · have hkl : k < m.length := by rw [HL.out]; exact hlt
      obtain ⟨b, o, eA, hbb, z0, z1, z2, z3⟩ := HA1.out k hkl
      obtain ⟨b2, o2, eA2, hbb2, y0, y1, y2, y3⟩ := HA2.out k hkl
      have kb : ∀ i, wr.cell? ⟨b, i, none⟩ = w.cell? ⟨b, i, none⟩ := fun i => hb.cell (p := ⟨b, i, none⟩) (by simp; omega)
      have kb2 : ∀ i, wr.cell? ⟨b2, i, none⟩ = w.cell? ⟨b2, i, none⟩ := fun i => hb.cell (p := ⟨b2, i, none⟩) (by simp; omega)
      rw [← kb] at z0 z1 z2 z3
      rw [← kb2] at y0 y1 y2 y3
      clear kb kb2
      have hbw : b < wr.heap.size := by omega
      have hbw2 : b2 < wr.heap.size := by omega
      subst eA
      subst eA2
      generalize m[k] = x at *
      obtain ⟨xn, xq, xo, xb⟩ := x
      dsimp only at z0 z1 z2 z3 y0 y1 y2 y3
      go_wp2_with fail
      (refine wp_region_all_below (by kernel_rfl) (by kernel_rfl) ?_; (repeat (go_big_quiet_step (fail))); refine wpQuiet_nil ?_)
      intro w1 hb1
      have hs1 := hb1.size
      have HB1 := Lib.hid (hb.trans (hb1.mono hs))
      have K1' := Lib.hid (K1.out.kept hb1)
      have K2' := Lib.hid (K2.out.kept hb1)
      clear hb hb1 d1 d2 d3 d4 z0 z1 z2 z3 y0 y1 y2 y3

      go_wp2_with fail
      go_roundw
      case rel => exact ⟨k + 1, by omega, by go_num, HB1.out, K1'.out, K2'.out⟩
      case measure => simp [intOf]; omega
    · obtain rfl : k = n := by omega
      go_wp2_with fail
      go_ret
      exact ⟨rfl, hb⟩
end Go.Proofs.YtafnebfchhmgcaaGreat
