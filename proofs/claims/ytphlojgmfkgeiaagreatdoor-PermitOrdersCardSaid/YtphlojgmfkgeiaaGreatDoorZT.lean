/- Reference: the distances. -/
import Derived.Test.YtphlojgmfkgeiaaGreatDoorDP
import Derived.Test.YtphlojgmfkgeiaaGreatDoorWS
import Derived.Test.YtphlojgmfkgeiaaGreatDoorGR
namespace Go.Proofs.YtphlojgmfkgeiaaGreatDoor
open Go.RowKit Go.Sort Go.Shelf
set_option linter.unusedSimpArgs false
set_option linter.unusedVariables false
attribute [local go_sem] cell_if frozen_if grow_cell
def DsRes (w : World) (N : Nat) (F : Nat → Int) (e : Ending) (w' : World) : Prop := ∃ g, e = .returned (.slice (some ⟨g, 0, none⟩) N N) ∧ Blk w' g 3 (fnV N F) ∧ w.heap.size ≤ g ∧ Below w.heap.size w w'
def oneF (y : Yd) (f : Int → Bool) (k s : Nat) : Int := if s < k then dst y f 0 s else 0
theorem one_step {y : Yd} {f : Int → Bool} {k : Nat} {v : Int} (h : v = dst y f 0 k) (s : Nat) : (if s = k then v else oneF y f k s) = oneF y f (k + 1) s := by
  unfold oneF
  by_cases h1 : s = k
  · rw [if_pos h1, if_pos (by omega), h1, h]
  · rw [if_neg h1]
    by_cases h2 : s < k
    · rw [if_pos h2, if_pos (by omega)]
    · rw [if_neg h2, if_neg (by omega)]
theorem one_end {y : Yd} {f : Int → Bool} {N s : Nat} (h : s < N) : oneF y f N s = dst y f 0 s := if_pos h
theorem row_end {y : Yd} {f : Int → Bool} {m N s : Nat} (h : s < N) : rowF y f m N s = dst y f (m + 1) s := if_pos h
theorem mid_self (y : Yd) (f : Int → Bool) (m j k : Nat) : midF y f m j k j = dk y f m j k := if_pos rfl
theorem ite_twice {p : Prop} [Decidable p] (a b c : Int) : (if p then a else if p then b else c) = if p then a else c := by split <;> rfl
set_option maxRecDepth 100000 in
set_option maxHeartbeats 8000000 in
theorem distances_any (B : Nat) (A0 A1 A2 : Option Addr) (n0 n1 n2 c0 c1 c2 : Nat) (y : Yd) (w : World) (hY : YdAt w B A0 A1 A2 n0 n1 n2 y) (hB : B ≤ w.heap.size) (hP : Parts y) (gk gs : ByteArray) (hk : goalB gk = true) (h0 : 0 ≤ secAtB y gs) (G : Option Addr) (cap : Nat) (vs : List Value) (hG : GrS w G y (2 ^ n1) vs) :
    Calls Tryz.prog 129 #[.agg #[.slice A0 n0 c0, .slice A1 n1 c1, .slice A2 n2 c2], .agg #[.string gk, .string gs], .slice G (2 ^ n1) cap] w (DsRes w (2 ^ n1) (fun s => dst y (holdsF y gk gs) (2 ^ n1 - 1) s)) := by
  have hl0 := (sec_at hY.hs).1
  have hl1 := (sw_at hY.hw).1
  have hl2 := (pm_at hY.hp).1
  have h8 := hP.n8
  have h8' := hP.w8
  have h8'' := hP.p8
  have hp9 := pow9 (k := n1) (by omega)
  obtain ⟨N, hN⟩ : ∃ N : Nat, N = 2 ^ n1 := ⟨_, rfl⟩
  have hI : (2 : Int) ^ n1 = (N : Int) := by rw [hN]; simp
  have hN5 : N ≤ 512 := by have := hp9.2; omega
  have hN1 : 1 ≤ N := by have := hp9.1; omega
  have hn9 : n1 ≤ 9 := by omega
  rw [← hN] at hG ⊢
  have HWi := Lib.hid (fun W (hW : Below w.heap.size w W) s (hs : 0 ≤ s ∧ s < 512) => (rWith_any B A0 A1 A2 n0 n1 n2 c0 c1 c2 y s W (hY.below (hW.mono hB)) (by have := hW.size; omega) (by omega) (by omega) (by omega) hs.1 (by omega)).mono fun _ _ h => h.lens (m0 := y.s.length) (m1 := y.w.length) (m2 := y.p.length) rfl (at_lenR y s) rfl)
  have HHo := Lib.hid (fun W D0 D1 D2 d0 d1 d2 s (hz : YdAt W W.heap.size D0 D1 D2 y.s.length y.w.length y.p.length (y.at s)) => rHolds_any W.heap.size D0 D1 D2 _ _ _ d0 d1 d2 (y.at s) W hz (Nat.le_refl _) (hP.at s) gk gs hk h0)
  change Hid (∀ W D0 D1 D2 d0 d1 d2 s, _ → Calls _ _ _ W fun e w' => e = .returned (.bool (holdsF y gk gs s)) ∧ _) at HHo
  have HNx : Hid (∀ (s : Int) (k : Nat), ∃ t : Nat, nextS y s k = (t : Int) ∧ t < N) := fun s k => by
    have h1 := mem_rng.1 (nextS_in y s k)
    obtain ⟨t, ht⟩ := Int.eq_ofNat_of_zero_le h1.1
    refine ⟨t, ht, ?_⟩
    have := h1.2
    rw [hl1, ← hN] at this
    omega
  have HNn := Lib.hid hN
  have HL1 := Lib.hid hl1
  have HGr := Lib.hid hG
  generalize holdsF y gk gs = f at *
  obtain ⟨ht, ⟨ix, z, g1, g2, g3, g4, g5⟩, hp⟩ := elemInt
  have hz : z = .int .i64 0 := by
    have : (Tryz.prog.info? 3).bind (·.zero) = some (.int .i64 0) := by kernel_rfl
    rw [g1] at this
    simpa [g2] using this
  subst hz
  have hm1 : ∀ w, (Instr.makeSlice 29 (.int .i64 (N : Int)) (.int .i64 (N : Int))).run Tryz.prog w = .ok (.slice (some ⟨w.heap.size, 0, none⟩) N N) (w.alloc (.cells (fnV N (fun _ => 0)) 3)) := fun w => by
    have := run_make (P := Tryz.prog) w _ _ ix (.int .i64 0) ht g1 g2 .i64 .i64 (N : Int) (N : Int) (by omega) (by omega) (by rw [g4]; omega) (by omega)
    rw [g3] at this
    simpa [fnV_zero] using this
  clear g1 g2 g3 g4 g5 ht hp hY hP hl0 hl1 hl2 hN hG hk h0 hI hp9 h8 h8' h8''
  have B00 := Lib.hid (Blk.new_at (w := (w.alloc (.cells #[.slice A0 n0 c0, .slice A1 n1 c1, .slice A2 n2 c2] 26)).alloc (.cells #[.string gk, .string gs] 28)) (g := w.heap.size + 1 + 1) 3 (fnV N (fun _ => 0)) (by simp))
  go_enter Tryz.func129, Tryz.ntmps129
  go_wp2_with fail
  go_loopw [8] (fun i wr => ∃ k : Nat, k ≤ N ∧ i = .int .i64 k ∧ Blk wr (w.heap.size + 1 + 1) 3 (fnV N (oneF y f k)) ∧ Blk wr w.heap.size 26 #[.slice A0 n0 c0, .slice A1 n1 c1, .slice A2 n2 c2] ∧ Blk wr (w.heap.size + 1) 28 #[.string gk, .string gs] ∧ Below w.heap.size w wr) (fun i _ => N - (intOf i).toNat)
  case atStart =>
    refine ⟨0, by omega, rfl, ?_, bk_, bk_, bl_⟩
    rw [fnV_congr (N := N) (F := oneF y f 0) (G := fun _ => 0) (fun s hs => if_neg (by omega))]
    exact B00.out
  case round =>
    clear B00
    obtain ⟨k, hkn, rfl, b9, bY, bG, hb⟩ := hrel
    have hsr := hb.size
    by_cases hlt : k < N
    · obtain ⟨b, o, u, eA, hbb, hu, hcell⟩ := HGr.out.rd.at_ hlt
      have hrow := HGr.out.row k u hu
      have hbw : b < wr.heap.size := by omega
      have kb : (wr.setCell ⟨w.heap.size + 1 + 1, k, none⟩ (.int .i64 (-1))).cell? ⟨b, o + k, none⟩ = some u := ((hb.setCell (p := ⟨w.heap.size + 1 + 1, k, none⟩) (by first | (simp; done) | (simp; omega)) _).cell (p := ⟨b, o + k, none⟩) hbb).trans hcell
      have Z9 := Lib.hid (b9.set_ k (.int .i64 (-1)))
      have ZY := Lib.hid (bY.far (p := ⟨w.heap.size + 1 + 1, k, none⟩) (by first | (simp; done) | (simp; omega)) (.int .i64 (-1)))
      have ZG := Lib.hid (bG.far (p := ⟨w.heap.size + 1 + 1, k, none⟩) (by first | (simp; done) | (simp; omega)) (.int .i64 (-1)))
      have ZB := Lib.hid (hb.setCell (p := ⟨w.heap.size + 1 + 1, k, none⟩) (by first | (simp; done) | (simp; omega)) (.int .i64 (-1)))
      have c9 := b9.cell
      have f9 := b9.frozen
      have l9 := b9.lt
      have gz := fnV_get (F := oneF y f k) hlt
      subst eA
      clear hcell hu
      go_wp2_with fail
      have hsz : (wr.setCell ⟨w.heap.size + 1 + 1, k, none⟩ (.int .i64 (-1))).heap.size = wr.heap.size := by simp
      generalize wr.setCell ⟨w.heap.size + 1 + 1, k, none⟩ (.int .i64 (-1)) = w5 at *
      rw [fnV_set] at Z9
      clear b9 bY bG hb c9 f9 l9 gz
      have hb := ZB.out
      have hs5 := hb.size
      have cY := ZY.out.cell
      have lY := ZY.out.lt
      have cG := ZG.out.cell
      have lG := ZG.out.lt
      have hbw5 : b < w5.heap.size := by omega
      have e0 : dst y f 0 k = if hasI (reachB y) k && f k then 0 else -1 := by rw [dst]
      cases hq : hasI (reachB y) (k : Int) with
      | false =>
        obtain rfl := hrow.2 (fun h => by rw [(hasI_iff _ _).2 h] at hq; cases hq)
        rw [hq, Bool.false_and, if_neg (by decide)] at e0
        have hO := Z9.out
        rw [fnV_congr (fun s _ => one_step e0.symm s)] at hO
        have ZO := Lib.hid hO
        clear hO Z9 hq hrow e0
        (refine wp_region_calm [] [0, 1, 2, 3, 4, 5, 6, 7, 8, 9, 10, 11] 0 (by kernel_rfl) rfl (by kernel_rfl) (by kernel_rfl) (by kernel_rfl) ?_; simp only [pickB, List.filterMap_cons, List.filterMap_nil, List.getElem?_toArray, List.getElem?_cons_zero, List.getElem?_cons_succ]; (repeat (first | ((with_reducible refine quietL_plain rfl (fun K hK => ?_)); (apply Exists.intro; refine ⟨fun wx hx => ?_, ?_⟩; (· (have hcx := ifs_ex hx); simp [go_sem, *, ↓IntWalk.iteOmega] <;> (first | rfl | exact ⟨rfl, rfl⟩ | fail)); (simp only [Act.put, List.setIfInBounds_toArray, List.set_cons_zero, List.set_cons_succ]; refine hK _ ?_; clear hK K))) | ((with_reducible refine quietL_skip (by with_unfolding_all rfl) ?_); simp only [Act.put, List.setIfInBounds_toArray, List.set_cons_zero, List.set_cons_succ]) | ((with_reducible refine quietL_want (by with_unfolding_all rfl) (fun K hK => ?_)); (apply Exists.intro; refine ⟨fun wx hx => ?_, ?_⟩; (· (have hcx := ifs_ex hx); simp [go_sem, *, ↓IntWalk.iteOmega] <;> (first | rfl | exact ⟨rfl, rfl⟩ | fail)); (simp only [Act.put, List.setIfInBounds_toArray, List.set_cons_zero, List.set_cons_succ]; refine hK _ ?_; clear hK K))))); refine quietL_nil ?_)
        (refine anyB_end (by kernel_rfl) ?_; intro wz hbz; have hsz := hbz.size; (try simp at hsz); simp only [Calm])
        have hbz' := ZB.out.trans (hbz.mono hs5)
        have ZZ := Lib.hid (And.intro (ZO.out.kept hbz) (And.intro (ZY.out.kept hbz) (And.intro (ZG.out.kept hbz) hbz')))
        clear hb hbz hbz' ZO ZY ZG ZB cY lY cG lG
        go_wp2_with fail
        refine ⟨⟨k + 1, by omega, by simp, ZZ.out.1, ZZ.out.2.1, ZZ.out.2.2.1, ZZ.out.2.2.2⟩, ?_⟩
        simp only [intOf]
        omega
      | true =>
        obtain ⟨g, c, rfl, _⟩ := hrow.1 ((hasI_iff _ _).1 hq)
        rw [hq, Bool.true_and] at e0
        have HWs := Lib.hid (fun W hW => HWi.out W hW (k : Int) ⟨by omega, by omega⟩)
        have HHs := Lib.hid (fun W D0 D1 D2 d0 d1 d2 hz => HHo.out W D0 D1 D2 d0 d1 d2 (k : Int) hz)
        clear hrow hq
        generalize f (k : Int) = q at *
        (refine wp_region_calm [] [0, 1, 2, 3, 4, 5, 6, 7, 9] 3 (by kernel_rfl) rfl (by kernel_rfl) (by kernel_rfl) (by kernel_rfl) ?_; simp only [pickB, List.filterMap_cons, List.filterMap_nil, List.getElem?_toArray, List.getElem?_cons_zero, List.getElem?_cons_succ]; (repeat (first | ((with_reducible refine quietL_plain rfl (fun K hK => ?_)); (apply Exists.intro; refine ⟨fun wx hx => ?_, ?_⟩; (· (have hcx := ifs_ex hx); simp [go_sem, *, ↓IntWalk.iteOmega] <;> (first | rfl | exact ⟨rfl, rfl⟩ | fail)); (simp only [Act.put, List.setIfInBounds_toArray, List.set_cons_zero, List.set_cons_succ]; refine hK _ ?_; clear hK K))) | ((with_reducible refine quietL_skip (by with_unfolding_all rfl) ?_); simp only [Act.put, List.setIfInBounds_toArray, List.set_cons_zero, List.set_cons_succ]) | ((with_reducible refine quietL_want (by with_unfolding_all rfl) (fun K hK => ?_)); (apply Exists.intro; refine ⟨fun wx hx => ?_, ?_⟩; (· (have hcx := ifs_ex hx); simp [go_sem, *, ↓IntWalk.iteOmega] <;> (first | rfl | exact ⟨rfl, rfl⟩ | fail)); (simp only [Act.put, List.setIfInBounds_toArray, List.set_cons_zero, List.set_cons_succ]; refine hK _ ?_; clear hK K))))); refine quietL_nil ?_)
        (refine anyB_one_want (i := 8) (by kernel_rfl) rfl (by kernel_rfl) ?_; intro wa hba K hK; have hsa := hba.size; (try simp at hsa); go_wp2_with fail)
        refine (HWs.out _ (ZB.out.trans (hba.mono hs5))).mono ?_
        rintro e wb ⟨D0, D1, D2, d0, d1, d2, rfl, hO, hbb2⟩
        have hsb := hbb2.size
        have hza := hO.yd
        rw [at_lenR] at hza
        have HZ := Lib.hid (show YdAt wb wb.heap.size D0 D1 D2 y.s.length y.w.length y.p.length (y.at k) from hza)
        clear hO hza
        (go_wp2; refine ⟨xs_, ?_⟩)
        (refine anyB_one_want (i := 10) (by kernel_rfl) rfl (by kernel_rfl) ?_; intro wc hbc K hK; have hsc := hbc.size; (try simp at hsc); go_wp2_with fail)
        refine (HHs.out _ _ _ _ _ _ _ ((HZ.out.below hbc).more hbc.size)).mono ?_
        (rintro e wd ⟨rfl, hbd⟩; have hsd := hbd.size; (try simp at hsd))
        (go_wp2; refine ⟨xs_, ?_⟩)
        (refine anyB_one (i := 11) (by kernel_rfl) rfl rfl ?_; intro we hbe K hK; have hse := hbe.size; (try simp at hse); go_wp2; refine ⟨xs_, ?_⟩)
        (refine anyB_end (by kernel_rfl) ?_; intro wz hbz; have hsz := hbz.size; (try simp at hsz); simp only [Calm])
        have hbz5 : Below w5.heap.size w5 wz := bl_
        have hbz' := ZB.out.trans (hbz5.mono hs5)
        have ZZ := Lib.hid (And.intro (ZY.out.kept hbz5) (And.intro (ZG.out.kept hbz5) hbz'))
        have Z0 := Lib.hid (Z9.out.kept hbz5)
        have hsz5 := hbz'.size
        clear hb hba hbb2 hbc hbd hbe hbz hbz5 hbz' HZ Z9 ZY ZG ZB cY lY cG lG
        cases q with
        | false =>
          rw [if_neg (by decide)] at e0
          have hO := Z0.out
          rw [fnV_congr (fun s _ => one_step e0.symm s)] at hO
          have ZO := Lib.hid hO
          clear hO Z0 e0
          go_wp2_with fail
          refine ⟨⟨k + 1, by omega, by simp, ZO.out, ZZ.out.1, ZZ.out.2.1, ZZ.out.2.2⟩, ?_⟩
          simp only [intOf]
          omega
        | true =>
          rw [if_pos rfl] at e0
          have hO := Z0.out.set_ k (.int .i64 0)
          rw [fnV_set, fnV_congr (fun s _ => ite_twice 0 (-1) (oneF y f k s)), fnV_congr (fun s _ => one_step e0.symm s)] at hO
          have ZO := Lib.hid hO
          have c9 := Z0.out.cell
          have f9 := Z0.out.frozen
          have l9 := Z0.out.lt
          have gz := fnV_get (F := fun s => if s = k then (-1 : Int) else oneF y f k s) hlt
          clear hO Z0 e0
          go_wp2_with fail
          refine ⟨⟨k + 1, by omega, by simp, ZO.out, ZZ.out.1.far (by first | (simp; done) | (simp; omega)) _, ZZ.out.2.1.far (by first | (simp; done) | (simp; omega)) _, ZZ.out.2.2.setCell (by first | (simp; done) | (simp; omega)) _⟩, ?_⟩
          simp only [intOf]
          omega
    · obtain rfl : N = k := by omega
      have b9' := b9
      rw [fnV_congr (fun s hs => one_end hs)] at b9'
      have Z9 := Lib.hid b9'
      have ZB := Lib.hid hb
      clear b9' b9 bY bG hb HWi HHo
      go_wp2_with fail
      go_loopw [9] (fun i wr => ∃ m : Nat, m + 1 ≤ N ∧ i = .int .i64 ((m + 1 : Nat) : Int) ∧ Blk wr (w.heap.size + 1 + 1) 3 (fnV N (fun s => dst y f m s)) ∧ Below w.heap.size w wr) (fun i _ => N - (intOf i).toNat)
      case atStart => exact ⟨0, by omega, rfl, Z9.out, ZB.out⟩
      case round =>
        clear Z9 ZB
        obtain ⟨m, hm, rfl, b9, hb⟩ := hrel
        have hsr := hb.size
        have Z9 := Lib.hid b9
        have ZB := Lib.hid hb
        clear b9 hb
        by_cases hlt : m + 1 < N
        · go_wp2_with fail
          go_loopw [10] (fun i wr => ∃ j : Nat, j ≤ N ∧ i = .int .i64 (j : Int) ∧ Blk wr (w.heap.size + 1 + 1) 3 (fnV N (rowF y f m j)) ∧ Below w.heap.size w wr) (fun i _ => N - (intOf i).toNat)
          case atStart =>
            refine ⟨0, by omega, rfl, ?_, ZB.out⟩
            rw [fnV_congr (N := N) (F := rowF y f m 0) (G := fun s => dst y f m s) (fun s hs => if_neg (by omega))]
            exact Z9.out
          case round =>
            clear Z9 ZB
            obtain ⟨j, hj, rfl, b9, hb⟩ := hrel
            have hsr := hb.size
            by_cases hjlt : j < N
            · obtain ⟨b, o, u, eA, hbb, hu, hcell⟩ := HGr.out.rd.at_ hjlt
              have hrow := HGr.out.row j u hu
              have hbw : b < wr.heap.size := by omega
              have kb : ∀ W, Below w.heap.size w W → W.cell? ⟨b, o + j, none⟩ = some u := fun W hW => (hW.cell (p := ⟨b, o + j, none⟩) hbb).trans hcell
              have HKb := Lib.hid kb
              subst eA
              clear hcell hu kb
              cases hq : hasI (reachB y) (j : Int) with
              | false =>
                obtain rfl := hrow.2 (fun h => by rw [(hasI_iff _ _).2 h] at hq; cases hq)
                have hno : (j : Int) ∉ reachB y := fun h => by rw [(hasI_iff _ _).2 h] at hq; cases hq
                have hO := b9
                rw [fnV_congr (fun s _ => (rowF_mid m j s).trans (row_out hno s))] at hO
                have ZO := Lib.hid hO
                have ZB := Lib.hid hb
                clear hO b9 hb hrow hq hno
                go_wp2_with fail
                go_loopw [11] (fun i wx => i = .int .i64 0 ∧ Blk wx (w.heap.size + 1 + 1) 3 (fnV N (rowF y f m (j + 1))) ∧ Below w.heap.size w wx) (fun i _ => 0)
                case atStart => exact ⟨rfl, ZO.out, ZB.out⟩
                case round =>
                  clear ZO ZB
                  obtain ⟨rfl, b9, hb⟩ := hrel
                  have hsx := hb.size
                  have kb := HKb.out _ hb
                  have hbw : b < wr.heap.size := by omega
                  have ZO := Lib.hid b9
                  have ZB := Lib.hid hb
                  clear b9 hb
                  go_wp2_with fail
                  refine ⟨⟨j + 1, by omega, by simp, ZO.out, ZB.out⟩, ?_⟩
                  simp only [intOf]
                  omega
              | true =>
                have hin := (hasI_iff _ _).1 hq
                obtain ⟨g, c, rfl, hrd⟩ := hrow.1 hin
                have ZO := Lib.hid b9
                have ZB := Lib.hid hb
                have HRow := Lib.hid hrd
                have HIn := Lib.hid hin
                clear b9 hb hrow hq hrd hin
                go_wp2_with fail
                go_loopw [11] (fun i wx => ∃ k : Nat, k ≤ n1 ∧ i = .int .i64 (k : Int) ∧ Blk wx (w.heap.size + 1 + 1) 3 (fnV N (midF y f m j k)) ∧ Below w.heap.size w wx) (fun i _ => n1 - (intOf i).toNat)
                case atStart =>
                  refine ⟨0, by omega, rfl, ?_, ZB.out⟩
                  rw [fnV_congr (fun s _ => (rowF_mid m j s).symm)]
                  exact ZO.out
                case round =>
                  clear ZO ZB
                  obtain ⟨k, hk, rfl, b9, hb⟩ := hrel
                  have hsx := hb.size
                  have kb := HKb.out _ hb
                  have hbw : b < wr.heap.size := by omega
                  have hlw := HL1.out
                  by_cases hklt : k < n1
                  · obtain ⟨b', o', u', eA', hbb', hu', hcell'⟩ := HRow.out.at_ (k := k) (by omega)
                    cases eA'
                    obtain rfl : u' = .int .i64 (gCell y j k) := by
                      rw [List.getElem?_map, gRow_get (by omega)] at hu'
                      exact (Option.some.inj hu').symm
                    have zb := (hb.cell (p := ⟨g, 0 + k, none⟩) hbb').trans hcell'
                    rw [Nat.zero_add] at zb
                    have hgw : g < wr.heap.size := by omega
                    clear hu' hcell' hbb'
                    have ZB := Lib.hid hb
                    have c9 := b9.cell
                    have f9 := b9.frozen
                    have l9 := b9.lt
                    have gj := fnV_get (F := midF y f m j k) hjlt
                    rw [mid_self] at gj
                    by_cases hd : dk y f m j k < 0
                    · cases hf : freeS y j k with
                      | false =>
                        rw [show gCell y j k = -1 by unfold gCell; rw [hf]; rfl] at zb
                        have hO := b9
                        rw [← fnV_congr (fun s _ => mid_stay (fun h => by have := h.2; unfold stpB at this; rw [hf] at this; cases this) s)] at hO
                        have ZN := Lib.hid hO
                        clear hO b9 HRow HIn HKb
                        generalize fnV N (midF y f m j k) = zz at *
                        generalize dk y f m j k = dv at *
                        clear hf
                        go_wp2_with fail
                        refine ⟨⟨k + 1, by omega, by simp, ZN.out, ZB.out⟩, ?_⟩
                        simp only [intOf]
                        omega
                      | true =>
                        obtain ⟨t, ht, htN⟩ := HNx.out j k
                        rw [show gCell y j k = (t : Int) by unfold gCell; rw [hf, ht]; rfl] at zb
                        have gt := fnV_get (F := midF y f m j k) htN
                        by_cases he : midF y f m j k t = (m : Int)
                        · have hO := b9.set_ j (.int .i64 ((m + 1 : Nat) : Int))
                          rw [fnV_set, fnV_congr (fun s _ => mid_step hd ht hf he s)] at hO
                          have ZN := Lib.hid hO
                          have ZC := Lib.hid (ZB.out.setCell (p := ⟨w.heap.size + 1 + 1, j, none⟩) (by first | (simp; done) | (simp; omega)) (.int .i64 ((m + 1 : Nat) : Int)))
                          rw [he] at gt
                          clear hO b9 HRow HIn HKb
                          generalize fnV N (midF y f m j k) = zz at *
                          generalize dk y f m j k = dv at *
                          clear hf ht he
                          have htN' : (t : Int) < (N : Int) := by omega
                          go_wp2_with fail
                          refine ⟨⟨k + 1, by omega, by simp, ZN.out, ZC.out⟩, ?_⟩
                          simp only [intOf]
                          omega
                        · have hns := stp_no hd ht he
                          have hO := b9
                          rw [← fnV_congr (fun s _ => mid_stay (fun h => by rw [hns] at h; cases h.2) s)] at hO
                          have ZN := Lib.hid hO
                          clear hO b9 HRow HIn HKb
                          have htN' : (t : Int) < (N : Int) := by omega
                          generalize midF y f m j k t = tv at *
                          generalize fnV N (midF y f m j k) = zz at *
                          generalize dk y f m j k = dv at *
                          clear hf ht hns
                          go_wp2_with fail
                          refine ⟨⟨k + 1, by omega, by simp, ZN.out, ZB.out⟩, ?_⟩
                          simp only [intOf]
                          omega
                    · have hO := b9
                      rw [← fnV_congr (fun s _ => mid_stay (fun h => hd h.1) s)] at hO
                      have ZN := Lib.hid hO
                      clear hO b9 HRow HIn HKb
                      generalize gCell y j k = gv at *
                      generalize fnV N (midF y f m j k) = zz at *
                      generalize dk y f m j k = dv at *
                      go_wp2_with fail
                      refine ⟨⟨k + 1, by omega, by simp, ZN.out, ZB.out⟩, ?_⟩
                      simp only [intOf]
                      omega
                  · obtain rfl : n1 = k := by omega
                    have hO := b9
                    rw [← HL1.out, fnV_congr (fun s _ => mid_row HIn.out s)] at hO
                    have ZO := Lib.hid hO
                    have ZB := Lib.hid hb
                    clear hO b9 hb
                    go_wp2_with fail
                    refine ⟨⟨j + 1, by omega, by simp, ZO.out, ZB.out⟩, ?_⟩
                    simp only [intOf]
                    omega
            · obtain rfl : N = j := by omega
              have hO := b9
              rw [fnV_congr (fun s hs => row_end hs)] at hO
              have ZO := Lib.hid hO
              have ZB := Lib.hid hb
              clear hO b9 hb
              go_wp2_with fail
              refine ⟨⟨m + 1, by omega, by simp, ZO.out, ZB.out⟩, ?_⟩
              simp only [intOf]
              omega
        · obtain rfl : N = m + 1 := by omega
          go_wp2_with fail
          go_ret
          exact ⟨_, rfl, Z9.out, by omega, ZB.out⟩
end Go.Proofs.YtphlojgmfkgeiaaGreatDoor
