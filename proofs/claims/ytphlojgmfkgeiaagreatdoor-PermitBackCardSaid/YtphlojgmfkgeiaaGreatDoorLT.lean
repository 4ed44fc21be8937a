/- The law PermitBack. (UNDER WAY) -/
import Derived.Test.YtphlojgmfkgeiaaGreatDoorLS
import Derived.Test.YtphlojgmfkgeiaaGreatDoorSA
import Derived.Test.YtphlojgmfkgeiaaGreatDoorKn
import Derived.Test.YtphlojgmfkgeiaaGreatDoorGE
import Derived.Test.YtphlojgmfkgeiaaGreatDoorKo
import Derived.Test.YtphlojgmfkgeiaaGreatDoorQT
import Derived.Test.YtphlojgmfkgeiaaGreatDoorTG
namespace Go.Proofs.YtphlojgmfkgeiaaGreatDoor
open Go.RowKit Go.Sort Go.Shelf
set_option linter.unusedSimpArgs false
set_option linter.unusedVariables false
attribute [local go_sem] cell_if frozen_if grow_cell
/-- What a call leaves in a block of the law: a yard. -/
structure YdQ (T : TypeId) (z : Yd) (b : Nat) (E0 E1 E2 : Option Addr) (e0 e1 e2 : Nat) (W : World) : Prop where
  blk : Blk W b T #[.slice E0 z.s.length e0, .slice E1 z.w.length e1, .slice E2 z.p.length e2]
  yd : YdAt W W.heap.size E0 E1 E2 z.s.length z.w.length z.p.length z
theorem YdQ.kept {T : TypeId} {z : Yd} {b : Nat} {E0 E1 E2 : Option Addr} {e0 e1 e2 : Nat} {W W' : World} (h : YdQ T z b E0 E1 E2 e0 e1 e2 W) (hb : Below W.heap.size W W') : YdQ T z b E0 E1 E2 e0 e1 e2 W' := ⟨h.blk.kept hb, yd_kept h.yd hb⟩
/-- A parse that gives a yard. -/
def ParsesTo (t : ByteArray) (z : Yd) (n e : Int) (W : World) : Prop :=
  Calls Tryz.prog 74 #[.string t] W fun en w' => ∃ D0 D1 D2 d0 d1 d2, en = .returned (.tuple #[.agg #[.slice D0 z.s.length d0, .slice D1 z.w.length d1, .slice D2 z.p.length d2], .int .i64 n, .int .i64 e]) ∧ YdAt w' w'.heap.size D0 D1 D2 z.s.length z.w.length z.p.length z ∧ Below W.heap.size W w'
set_option maxRecDepth 1000000 in
set_option maxHeartbeats 20000000 in
theorem back_any (A0 A1 A2 : Option Addr) (n0 n1 n2 c0 c1 c2 : Nat) (y : Yd) (s : ByteArray) (w : World) (hY : YdAt w w.heap.size A0 A1 A2 n0 n1 n2 y) (h0 : n0 ≤ maxLen) (h1 : n1 ≤ maxLen) (h2 : n2 ≤ maxLen) (hW : Wide y) (hT : Tabs w) :
    Calls Tryz.prog 13 #[.agg #[.slice A0 n0 c0, .slice A1 n1 c1, .slice A2 n2 c2], .string s] w fun e w' => e = .returned (.bool true) ∧ Below w.heap.size w w' := by
  have HY := Lib.hid hY
  have HT := Lib.hid (fun W (hW : Below w.heap.size w W) => hT.kept hW)
  have HAw := Lib.hid (fun W (hW : Below w.heap.size w W) => awake_any W (hT.kept hW))
  have HSm := Lib.hid (fun W (hB : Below w.heap.size w W) => small_any A0 A1 A2 n0 n1 n2 c0 c1 c2 y W (yd_kept hY hB) h0 h1 h2 hW)
  have hl0 := (sec_at hY.hs).1
  have hl1 := (sw_at hY.hw).1
  have hl2 := (pm_at hY.hp).1
  have HL0 := Lib.hid hl0
  have HL1 := Lib.hid hl1
  have HL2 := Lib.hid hl2
  have HF := Lib.hid (fun h => hW.fits (y := y) h)
  clear hY hT h0 h1 h2 hW hl0 hl1 hl2
  cases hS : smallB y with
  | false =>
    rw [hS] at HSm
    clear hS
    as_aux_lemma =>
      go_enter Tryz.func13, Tryz.ntmps13
      go_wp2_with fail
      refine (HAw.out _ bl_).mono ?_
      (rintro e w1 ⟨rfl, hb1⟩; have hs1 := hb1.size; (try simp at hs1))
      have HB1 := Lib.hid (bl_ : Below w.heap.size w w1)
      have BY := Lib.hid (bk_ : Blk w1 w.heap.size 26 #[.slice A0 n0 c0, .slice A1 n1 c1, .slice A2 n2 c2])
      have cY := BY.out.cell
      have lY := BY.out.lt
      clear hb1
      go_wp2_with fail
      refine (HSm.out _ HB1.out).mono ?_
      (rintro e w2 ⟨rfl, hb2⟩; have hs2 := hb2.size; (try simp at hs2))
      have HB2 := Lib.hid (HB1.out.trans (hb2.mono HB1.out.size))
      have hs02 := HB2.out.size
      replace BY := Lib.hid (BY.out.kept hb2)
      replace cY := BY.out.cell
      replace lY := BY.out.lt
      (try replace BG := Lib.hid (BG.out.kept hb2))
      (try replace cG := BG.out.cell)
      (try replace lG := BG.out.lt)
      clear hb2
      go_wp2_with fail
      refine (HAw.out _ HB2.out).mono ?_
      rintro e wz ⟨rfl, hbz⟩
      go_wp2_with fail
      go_ret
      exact ⟨rfl, HB2.out.trans (hbz.mono HB2.out.size)⟩
  | true =>
    rw [hS] at HSm
    have hSS : shortY y = true ∧ smallY y = true ∧ yardE y = 0 := by
      unfold smallB at hS
      simp only [Bool.and_eq_true, beq_iff_eq] at hS
      exact ⟨hS.1.1, hS.1.2, hS.2⟩
    by_cases hsz : s.size ≤ 300
    · have hF := HF.out hSS.1
      have hyE := hSS.2.2
      have hP := (yard_ok hyE).1
      have f0 := hF.s9
      have f1 := hF.w9
      have f2 := hF.p9
      have g0 : n0 ≤ 9 := HL0.out ▸ f0
      have g1 : n1 ≤ 9 := HL1.out ▸ f1
      have g2 : n2 ≤ 9 := HL2.out ▸ f2
      have p0 : 0 < n0 := HL0.out ▸ hP.n0
      have hps : printS y = toB (printL y) := by unfold printS; rw [if_pos hyE]; rfl
      have hl4 := printed_len hyE
      obtain ⟨hp1, hp2⟩ := parse_print hyE (by omega)
      obtain ⟨hf1, hf2⟩ := printed_few hyE
      have hst : (toB (printL y)).size = (printL y).length := by show (printL y).toArray.size = _; simp
      have hne : 0 < (printL y).length := by
        obtain ⟨q, hq⟩ := print_end hyE
        rw [hq]
        simp
      have hex : (toB (printL y)).extract 0 ((toB (printL y)).size - 1) = toB (printL y).dropLast := by
        rw [ext_take, toB_list, hst, List.dropLast_eq_take]
      have hc := parse_cut hyE (by omega)
      have hk : ((y.s.length + y.w.length + y.p.length - 1 : Nat) : Int) = (n0 : Int) + (n1 : Int) + (n2 : Int) - 1 := by
        have := HL0.out
        have := HL1.out
        have := HL2.out
        omega
      have HPa3 := Lib.hid (fun W (hW : Below w.heap.size w W) => (show ParsesTo ((toB (printL y)).extract 0 ((toB (printL y)).size - 1)) nilY ((n0 : Int) + (n1 : Int) + (n2 : Int) - 1) 25 W from by
        have h := Parse_lines (toB (printL y).dropLast) W (HT.out W hW) (by show (printL y).dropLast.toArray.size ≤ 4096; simp; omega) hf2
        rw [hc] at h
        rw [hex, ← hk]
        exact h))
      have HPa1 := Lib.hid (fun W (hW : Below w.heap.size w W) => (show ParsesTo (toB (printL y)) y 0 0 W from by
        have h := Parse_lines (toB (printL y)) W (HT.out W hW) (by omega) hf1
        rw [hp1] at h
        exact h))
      have HSp := Lib.hid (fun W => (show Calls Tryz.prog 77 #[.string (toB (printL y)), .int .u8 10] W fun e w' => ∃ g cap, e = .returned (.slice (some ⟨g, 0, none⟩) (n0 + n1 + n2 + 1) cap) ∧ Below W.heap.size W w' from by
        refine (Split_any (toB (printL y)) 10 W (by omega)).mono ?_
        rintro e w' ⟨g, cap, rfl, _, hb⟩
        exact ⟨g, cap, by rw [hp2, HL0.out, HL1.out, HL2.out], hb⟩))
      have HO := Lib.hid (fun W (hW : Below w.heap.size w W) => (own_any w.heap.size A0 A1 A2 n0 n1 n2 c0 c1 c2 y W (HY.out.below hW) hW.size (by omega) (by omega) (by omega)).mono fun _ _ h => h.sh)
      have HPr := Lib.hid (fun W D0 D1 D2 d0 d1 d2 (hy : YdAt W W.heap.size D0 D1 D2 y.s.length y.w.length y.p.length y) (hW : Below w.heap.size w W) => Print_any W.heap.size D0 D1 D2 y.s.length y.w.length y.p.length d0 d1 d2 y W hy (Nat.le_refl _) (HT.out W hW) hF)
      simp only [hps, hyE] at HPr
      have HTd := Lib.hid (fun W A0 A1 A2 c0 c1 c2 (hy : YdAt W W.heap.size A0 A1 A2 y.s.length y.w.length y.p.length y) => told_any W.heap.size A0 A1 A2 y.s.length y.w.length y.p.length c0 c1 c2 y W hy (Nat.le_refl _) (by omega) (by omega) (by omega))
      have HSa := Lib.hid (fun W D0 D1 D2 d0 d1 d2 (hz : YdAt W W.heap.size D0 D1 D2 y.s.length y.w.length y.p.length y) (hy : YdAt W W.heap.size A0 A1 A2 n0 n1 n2 y) => Same_any W.heap.size D0 D1 D2 y.s.length y.w.length y.p.length d0 d1 d2 A0 A1 A2 n0 n1 n2 c0 c1 c2 y W hz hy (Nat.le_refl _) (by omega) (by omega) (by omega))
      have HPa2 := Lib.hid (fun W (hW : Below w.heap.size w W) => (show ParsesTo s (parseR s).1 ((parseR s).2.1 : Nat) (parseR s).2.2 W from Parse_any s W (HT.out W hW) (.inl hsz)))
      have HBk := Lib.hid (fun h : (parseR s).2.2 = 0 => (parse_back (s := s) (z := (parseR s).1) (j := (parseR s).2.1) (by rw [← h])).2)
      have HPz := Lib.hid (fun (h : (parseR s).2.2 = 0) W E0 E1 E2 e0 e1 e2 (hy : YdAt W W.heap.size E0 E1 E2 (parseR s).1.s.length (parseR s).1.w.length (parseR s).1.p.length (parseR s).1) (hW : Below w.heap.size w W) => (show Calls Tryz.prog 73 #[.agg #[.slice E0 (parseR s).1.s.length e0, .slice E1 (parseR s).1.w.length e1, .slice E2 (parseR s).1.p.length e2]] W fun e w' => e = .returned (.tuple #[.string s, .int .i64 0]) ∧ Below W.heap.size W w' from by
        obtain ⟨h1, h2⟩ := HBk.out h
        have hh := Print_any W.heap.size E0 E1 E2 _ _ _ e0 e1 e2 _ W hy (Nat.le_refl _) (HT.out W hW) (fits_of h1)
        have hpz : printS (parseR s).1 = s := by unfold printS; rw [if_pos h1]; exact h2
        rw [hpz, h1] at hh
        exact hh))
      have hz1 : ¬ (300 : Int) < (s.size : Int) := by omega
      have ht0 : 0 < (toB (printL y)).size := by omega
      have ht4 : (toB (printL y)).size ≤ 3500 := by omega
      clear hex hst hc hp1 hp2 hf1 hf2 hne hps HBk hk
      generalize parseR s = pr at *
      obtain ⟨z, n, pe⟩ := pr
      dsimp only at HPa2 HPz
      generalize toB (printL y) = t at *
      obtain ⟨m, hm⟩ : ∃ m, t.size = m + 1 := ⟨t.size - 1, by omega⟩
      have hwr : IntKind.i64.wrap ((t.size : Int) - 1) = (m : Int) := by rw [IntKind.wrap_i64]; omega
      have hmn : m ≤ t.size := by omega
      have hw1 : IntKind.i64.wrap ((n0 : Int) + (n1 : Int) + (n2 : Int) + 1) = (n0 : Int) + (n1 : Int) + (n2 : Int) + 1 := by rw [IntKind.wrap_i64]; omega
      rw [show t.size - 1 = m by omega] at HPa3
      clear hS hsz hF hyE hP hl4 ht0 ht4 hm hSS HF f0 f1 f2
      as_aux_lemma =>
        go_enter Tryz.func13, Tryz.ntmps13
        go_wp2_with fail
        refine (HAw.out _ bl_).mono ?_
        (rintro e w1 ⟨rfl, hb1⟩; have hs1 := hb1.size; (try simp at hs1))
        have HB1 := Lib.hid (bl_ : Below w.heap.size w w1)
        have BY := Lib.hid (bk_ : Blk w1 w.heap.size 26 #[.slice A0 n0 c0, .slice A1 n1 c1, .slice A2 n2 c2])
        have cY := BY.out.cell
        have lY := BY.out.lt
        clear hb1
        go_wp2_with fail
        refine (HSm.out _ HB1.out).mono ?_
        (rintro e w2 ⟨rfl, hb2⟩; have hs2 := hb2.size; (try simp at hs2))
        have HB2 := Lib.hid (HB1.out.trans (hb2.mono HB1.out.size))
        have hs02 := HB2.out.size
        replace BY := Lib.hid (BY.out.kept hb2)
        replace cY := BY.out.cell
        replace lY := BY.out.lt
        (try replace BG := Lib.hid (BG.out.kept hb2))
        (try replace cG := BG.out.cell)
        (try replace lG := BG.out.lt)
        clear hb2
        go_wp2_with fail
        refine (HO.out _ HB2.out).mono ?_
        rintro e w3 ⟨D0, D1, D2, d0, d1, d2, rfl, hyd, hb3⟩
        have hs3 := hb3.size
        have HY3 := Lib.hid hyd
        clear hyd
        have HB3 := Lib.hid (HB2.out.trans (hb3.mono HB2.out.size))
        have hs03 := HB3.out.size
        replace BY := Lib.hid (BY.out.kept hb3)
        replace cY := BY.out.cell
        replace lY := BY.out.lt
        (try replace BG := Lib.hid (BG.out.kept hb3))
        (try replace cG := BG.out.cell)
        (try replace lG := BG.out.lt)
        clear hb3
        go_wp2_with fail
        refine (HPr.out _ _ _ _ _ _ _ HY3.out HB3.out).mono ?_
        (rintro e w4 ⟨rfl, hb4⟩; have hs4 := hb4.size; (try simp at hs4))
        have HB4 := Lib.hid (HB3.out.trans (hb4.mono HB3.out.size))
        have hs04 := HB4.out.size
        replace BY := Lib.hid (BY.out.kept hb4)
        replace cY := BY.out.cell
        replace lY := BY.out.lt
        (try replace BG := Lib.hid (BG.out.kept hb4))
        (try replace cG := BG.out.cell)
        (try replace lG := BG.out.lt)
        clear hb4
        clear HY3
        go_wp2_with fail
        refine (HPa1.out _ HB4.out).mono ?_
        rintro e w5 ⟨E0, E1, E2, e0, e1, e2, rfl, hyz, hb5⟩
        have hs5 := hb5.size
        have HZ5 := Lib.hid hyz
        clear hyz
        have HB5 := Lib.hid (HB4.out.trans (hb5.mono HB4.out.size))
        have hs05 := HB5.out.size
        replace BY := Lib.hid (BY.out.kept hb5)
        replace cY := BY.out.cell
        replace lY := BY.out.lt
        (try replace BG := Lib.hid (BG.out.kept hb5))
        (try replace cG := BG.out.cell)
        (try replace lG := BG.out.lt)
        clear hb5
        go_wp2_with fail
        have hb6 : Below w5.heap.size w5 (w5.alloc (.cells #[.slice E0 y.s.length e0, .slice E1 y.w.length e1, .slice E2 y.p.length e2] 41)) := bl_
        have HZ := Lib.hid (⟨Blk.new w5 41 #[.slice E0 y.s.length e0, .slice E1 y.w.length e1, .slice E2 y.p.length e2], yd_kept HZ5.out hb6⟩ : YdQ 41 y w5.heap.size E0 E1 E2 e0 e1 e2 _)
        have hs6 := World.size_alloc w5 (.cells #[.slice E0 y.s.length e0, .slice E1 y.w.length e1, .slice E2 y.p.length e2] 41)
        clear HZ5
        generalize (w5.alloc (.cells #[.slice E0 y.s.length e0, .slice E1 y.w.length e1, .slice E2 y.p.length e2] 41)) = w6 at *
        have HB6 := Lib.hid (HB5.out.trans (hb6.mono HB5.out.size))
        have hs06 := HB6.out.size
        replace BY := Lib.hid (BY.out.kept hb6)
        replace cY := BY.out.cell
        replace lY := BY.out.lt
        (try replace BG := Lib.hid (BG.out.kept hb6))
        (try replace cG := BG.out.cell)
        (try replace lG := BG.out.lt)
        clear hb6
        have HP := Lib.hid (Below.refl w6.heap.size w6)
        have cZ := HZ.out.blk.cell
        have lZ := HZ.out.blk.lt
        (refine wp_region_calm [] [0, 1, 2, 3, 4, 5, 6, 7, 8, 9, 10, 11, 13] 12 (by kernel_rfl) rfl (by kernel_rfl) (by kernel_rfl) (by kernel_rfl) ?_; simp only [pickB, List.filterMap_cons, List.filterMap_nil, List.getElem?_toArray, List.getElem?_cons_zero, List.getElem?_cons_succ]; (repeat (first | ((first | (with_reducible refine quietL_plain rfl (fun K hK => ?_)) | (with_reducible refine quietL_want (by with_unfolding_all rfl) (fun K hK => ?_))); (apply Exists.intro; refine ⟨fun wx hx => ?_, ?_⟩; (· (have hcx := ifs_ex hx); simp [go_sem, *, ↓IntWalk.iteOmega] <;> (first | rfl | exact ⟨rfl, rfl⟩ | fail)); (simp only [Act.put, List.setIfInBounds_toArray, List.set_cons_zero, List.set_cons_succ]; refine hK _ ?_; clear hK K))) | ((with_reducible refine quietL_skip (by with_unfolding_all rfl) ?_); simp only [Act.put, List.setIfInBounds_toArray, List.set_cons_zero, List.set_cons_succ]))); refine quietL_nil ?_)
        (refine anyB_one_want (i := 12) (by kernel_rfl) rfl (by kernel_rfl) ?_; intro wA hbA K hK; have hsA := hbA.size; (try simp at hsA); go_wp2_with fail)
        replace HP := Lib.hid (HP.out.trans (hbA.mono HP.out.size))
        refine (HTd.out _ _ _ _ _ _ _ (yd_kept HZ.out.yd HP.out)).mono ?_
        rintro e wB ⟨F0, F1, F2, f0, f1, f2, rfl, hOB, hbB⟩
        have hsB := hbB.size
        have HFB := Lib.hid hOB.yd
        clear hOB
        replace HP := Lib.hid (HP.out.trans (hbB.mono HP.out.size))
        (go_wp2; refine ⟨xs_, ?_⟩)
        (refine anyB_one_want (i := 14) (by kernel_rfl) rfl (by kernel_rfl) ?_; intro wC hbC K hK; have hsC := hbC.size; (try simp at hsC); go_wp2_with fail)
        replace HP := Lib.hid (HP.out.trans (hbC.mono HP.out.size))
        refine (HSa.out _ _ _ _ _ _ _ (yd_kept HFB.out hbC) (yd_kept HY.out (HB6.out.trans (HP.out.mono HB6.out.size)))).mono ?_
        rintro e wD ⟨rfl, hbD⟩
        have hsD := hbD.size
        replace HP := Lib.hid (HP.out.trans (hbD.mono HP.out.size))
        clear HFB
        (go_wp2; refine ⟨xs_, ?_⟩)
        (refine anyB_quiet_at (by kernel_rfl) calm_panic xs_ 4 [15, 16, 17, 18, 21, 22] _ _ (by kernel_rfl) (by decide +kernel) ?_; simp only [pickB, List.filterMap_cons, List.filterMap_nil, List.getElem?_toArray, List.getElem?_cons_zero, List.getElem?_cons_succ]; (repeat (first | ((first | (with_reducible refine quietL_plain rfl (fun K hK => ?_)) | (with_reducible refine quietL_want (by with_unfolding_all rfl) (fun K hK => ?_))); (apply Exists.intro; refine ⟨fun wx hx => ?_, ?_⟩; (· (have hcx := ifs_ex hx); simp [go_sem, *, ↓IntWalk.iteOmega] <;> (first | rfl | exact ⟨rfl, rfl⟩ | fail)); (simp only [Act.put, List.setIfInBounds_toArray, List.set_cons_zero, List.set_cons_succ]; refine hK _ ?_; clear hK K))) | ((with_reducible refine quietL_skip (by with_unfolding_all rfl) ?_); simp only [Act.put, List.setIfInBounds_toArray, List.set_cons_zero, List.set_cons_succ]))); refine quietL_nil ?_)
        (refine anyB_one_want (i := 19) (by kernel_rfl) rfl (by kernel_rfl) ?_; intro wE hbE K hK; have hsE := hbE.size; (try simp at hsE); go_wp2_with fail)
        replace HP := Lib.hid (HP.out.trans (hbE.mono HP.out.size))
        refine (HSp.out _).mono ?_
        rintro e wF ⟨gF, cF, rfl, hbF⟩
        have hsF := hbF.size
        replace HP := Lib.hid (HP.out.trans (hbF.mono HP.out.size))
        (go_wp2; refine ⟨xs_, ?_⟩)
        (refine anyB_quiet_at (by kernel_rfl) calm_panic xs_ 0 [20, 23, 24] _ _ (by kernel_rfl) (by decide +kernel) ?_; simp only [pickB, List.filterMap_cons, List.filterMap_nil, List.getElem?_toArray, List.getElem?_cons_zero, List.getElem?_cons_succ]; (repeat (first | ((first | (with_reducible refine quietL_plain rfl (fun K hK => ?_)) | (with_reducible refine quietL_want (by with_unfolding_all rfl) (fun K hK => ?_))); (apply Exists.intro; refine ⟨fun wx hx => ?_, ?_⟩; (· (have hcx := ifs_ex hx); simp [go_sem, *, ↓IntWalk.iteOmega] <;> (first | rfl | exact ⟨rfl, rfl⟩ | fail)); (simp only [Act.put, List.setIfInBounds_toArray, List.set_cons_zero, List.set_cons_succ]; refine hK _ ?_; clear hK K))) | ((with_reducible refine quietL_skip (by with_unfolding_all rfl) ?_); simp only [Act.put, List.setIfInBounds_toArray, List.set_cons_zero, List.set_cons_succ]))); refine quietL_nil ?_)
        (refine anyB_end (by kernel_rfl) ?_; intro wG hbG; have hsG := hbG.size; (try simp at hsG); simp only [Calm])
        have hb7 : Below w6.heap.size w6 wG := HP.out.trans (hbG.mono HP.out.size)
        clear hbA hbB hbC hbD hbE hbF hbG hsA hsB hsC hsD hsE hsF hsG HP HZ
        rename World => w7
        clear cZ lZ HSa HTd HSp HPr HPa1
        have HB7 := Lib.hid (HB6.out.trans (hb7.mono HB6.out.size))
        have hs07 := HB7.out.size
        replace BY := Lib.hid (BY.out.kept hb7)
        replace cY := BY.out.cell
        replace lY := BY.out.lt
        (try replace BG := Lib.hid (BG.out.kept hb7))
        (try replace cG := BG.out.cell)
        (try replace lG := BG.out.lt)
        clear hb7
        go_wp2_with fail
        refine (HPa2.out _ HB7.out).mono ?_
        rintro e w8 ⟨G0, G1, G2, h0', h1', h2', rfl, hyr, hb8⟩
        have hs8 := hb8.size
        have HQ8 := Lib.hid hyr
        clear hyr HPa2
        have HB8 := Lib.hid (HB7.out.trans (hb8.mono HB7.out.size))
        have hs08 := HB8.out.size
        replace BY := Lib.hid (BY.out.kept hb8)
        replace cY := BY.out.cell
        replace lY := BY.out.lt
        (try replace BG := Lib.hid (BG.out.kept hb8))
        (try replace cG := BG.out.cell)
        (try replace lG := BG.out.lt)
        clear hb8
        by_cases hpe : pe = 0
        · subst hpe
          as_aux_lemma =>
            go_wp2_with fail
            have hb9 : Below w8.heap.size w8 (w8.alloc (.cells #[.slice G0 z.s.length h0', .slice G1 z.w.length h1', .slice G2 z.p.length h2'] 41)) := bl_
            have HQ9 := Lib.hid (yd_kept HQ8.out hb9)
            clear HQ8
            generalize (w8.alloc (.cells #[.slice G0 z.s.length h0', .slice G1 z.w.length h1', .slice G2 z.p.length h2'] 41)) = w9 at *
            have HB9 := Lib.hid (HB8.out.trans (hb9.mono HB8.out.size))
            have hs09 := HB9.out.size
            replace BY := Lib.hid (BY.out.kept hb9)
            replace cY := BY.out.cell
            replace lY := BY.out.lt
            (try replace BG := Lib.hid (BG.out.kept hb9))
            (try replace cG := BG.out.cell)
            (try replace lG := BG.out.lt)
            clear hb9
            refine (HPz.out (by trivial) _ _ _ _ _ _ _ HQ9.out HB9.out).mono ?_
            (rintro e w10 ⟨rfl, hb10⟩; have hs10 := hb10.size; (try simp at hs10))
            clear HQ9 HPz
            have HB10 := Lib.hid (HB9.out.trans (hb10.mono HB9.out.size))
            have hs010 := HB10.out.size
            replace BY := Lib.hid (BY.out.kept hb10)
            replace cY := BY.out.cell
            replace lY := BY.out.lt
            (try replace BG := Lib.hid (BG.out.kept hb10))
            (try replace cG := BG.out.cell)
            (try replace lG := BG.out.lt)
            clear hb10
            go_wp2_with fail
            refine (HPa3.out _ HB10.out).mono ?_
            rintro e wq ⟨K0, K1, K2, k0, k1, k2, rfl, _, hbq⟩
            have HBq := Lib.hid (HB10.out.trans (hbq.mono HB10.out.size))
            clear hbq
            go_wp2_with fail
            go_ret
            have hq0 := HBq.out.size
            exact ⟨by first | rfl | (simp; done), HBq.out.alloc hq0 _⟩
        · have hp1 : (pe == 0) = false := by simpa using hpe
          clear HPz
          as_aux_lemma =>
            go_wp2_with fail
            have hb9 : Below w8.heap.size w8 (w8.alloc (.cells #[.slice G0 z.s.length h0', .slice G1 z.w.length h1', .slice G2 z.p.length h2'] 41)) := bl_
            generalize (w8.alloc (.cells #[.slice G0 z.s.length h0', .slice G1 z.w.length h1', .slice G2 z.p.length h2'] 41)) = w9 at *
            have HB9 := Lib.hid (HB8.out.trans (hb9.mono HB8.out.size))
            have hs09 := HB9.out.size
            replace BY := Lib.hid (BY.out.kept hb9)
            replace cY := BY.out.cell
            replace lY := BY.out.lt
            (try replace BG := Lib.hid (BG.out.kept hb9))
            (try replace cG := BG.out.cell)
            (try replace lG := BG.out.lt)
            clear hb9
            refine (HPa3.out _ HB9.out).mono ?_
            rintro e wq ⟨K0, K1, K2, k0, k1, k2, rfl, _, hbq⟩
            have HBq := Lib.hid (HB9.out.trans (hbq.mono HB9.out.size))
            clear hbq
            go_wp2_with fail
            go_ret
            have hq0 := HBq.out.size
            exact ⟨by first | rfl | (simp; done), HBq.out.alloc hq0 _⟩
    · have hz1 : (300 : Int) < (s.size : Int) := by omega
      clear hS hsz hSS HF
      as_aux_lemma =>
        go_enter Tryz.func13, Tryz.ntmps13
        go_wp2_with fail
        refine (HAw.out _ bl_).mono ?_
        (rintro e w1 ⟨rfl, hb1⟩; have hs1 := hb1.size; (try simp at hs1))
        have HB1 := Lib.hid (bl_ : Below w.heap.size w w1)
        have BY := Lib.hid (bk_ : Blk w1 w.heap.size 26 #[.slice A0 n0 c0, .slice A1 n1 c1, .slice A2 n2 c2])
        have cY := BY.out.cell
        have lY := BY.out.lt
        clear hb1
        go_wp2_with fail
        refine (HSm.out _ HB1.out).mono ?_
        (rintro e w2 ⟨rfl, hb2⟩; have hs2 := hb2.size; (try simp at hs2))
        have HB2 := Lib.hid (HB1.out.trans (hb2.mono HB1.out.size))
        have hs02 := HB2.out.size
        replace BY := Lib.hid (BY.out.kept hb2)
        replace cY := BY.out.cell
        replace lY := BY.out.lt
        (try replace BG := Lib.hid (BG.out.kept hb2))
        (try replace cG := BG.out.cell)
        (try replace lG := BG.out.lt)
        clear hb2
        go_wp2_with fail
        refine (HAw.out _ HB2.out).mono ?_
        rintro e wz ⟨rfl, hbz⟩
        go_wp2_with fail
        go_ret
        exact ⟨rfl, HB2.out.trans (hbz.mono HB2.out.size)⟩
end Go.Proofs.YtphlojgmfkgeiaaGreatDoor
