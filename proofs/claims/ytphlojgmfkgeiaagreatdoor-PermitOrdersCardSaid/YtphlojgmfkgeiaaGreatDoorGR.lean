/- Reference: the graph of states. -/
import Derived.Test.YtphlojgmfkgeiaaGreatDoorGP
import Derived.Test.YtphlojgmfkgeiaaGreatDoorWR
import Derived.Test.YtphlojgmfkgeiaaGreatDoorWQ
import Derived.Test.YtphlojgmfkgeiaaGreatDoorR7
namespace Go.Proofs.YtphlojgmfkgeiaaGreatDoor
open Go.RowKit Go.Sort Go.Shelf
set_option linter.unusedSimpArgs false
set_option linter.unusedVariables false
attribute [local go_sem] cell_if frozen_if grow_cell
def qlen : Value → Nat
  | .slice _ n _ => n
  | _ => 0
def GrRes (w : World) (y : Yd) (N : Nat) (e : Ending) (w' : World) : Prop := ∃ A cap vs, e = .returned (.slice A N cap) ∧ GrS w' A y N vs ∧ Below w.heap.size w w'
/-- The rounds. -/
def GrOR (w : World) (O S : Nat) (A0 A1 A2 : Option Addr) (n0 n1 n2 c0 c1 c2 : Nat) (y : Yd) (N : Nat) (v4 : Value) (W : World) : Prop := ∃ (vs : List Value) (sm : List Bool) (i : Nat) (l q : List Int) (b off cap : Nat), v4 = .slice (some ⟨b, off, none⟩) q.length cap ∧ q = l.drop i ∧ GrO w O S A0 A1 A2 n0 n1 n2 c0 c1 c2 y N vs sm i l q b off cap W ∧ Bf (nbS y) (y0 y) (rng N) i l
def GrJR (w : World) (O S : Nat) (A0 A1 A2 : Option Addr) (n0 n1 n2 c0 c1 c2 : Nat) (y : Yd) (N : Nat) (vs : List Value) (i : Nat) (l : List Int) (c b7 : Nat) (D0 D1 D2 : Option Addr) (d0 d1 d2 : Nat) (k : Nat) (v4 : Value) (W : World) : Prop := ∃ (sm : List Bool) (m q : List Int) (b off cap : Nat) (v : Value), v4 = .slice (some ⟨b, off, none⟩) q.length cap ∧ m = addAll l (outS y c k) ∧ q = m.drop (i + 1) ∧ GrJ w O S A0 A1 A2 n0 n1 n2 c0 c1 c2 y N vs i l c b7 D0 D1 D2 d0 d1 d2 k sm m q b off cap v W
theorem GrO.start {w : World} {O S : Nat} {A0 A1 A2 : Option Addr} {n0 n1 n2 c0 c1 c2 : Nat} {y : Yd} {N z0 b off cap : Nat} {W : World} (box : Blk W w.heap.size 26 #[.slice A0 n0 c0, .slice A1 n1 c1, .slice A2 n2 c2]) (out : Blk W O 29 (List.replicate N (Value.slice none 0 0)).toArray) (seen : Blk W S 4 (bls ((List.replicate N false).set z0 true))) (que : Que W w.heap.size b off 1 cap [(z0 : Int)]) (hz : z0 < N) (low : Below w.heap.size w W) (hO : w.heap.size < O) (hS : w.heap.size < S) :
    GrO w O S A0 A1 A2 n0 n1 n2 c0 c1 c2 y N (List.replicate N (Value.slice none 0 0)) ((List.replicate N false).set z0 true) 0 [(z0 : Int)] [(z0 : Int)] b off cap W := by
  refine ⟨box, out, seen, que, by simp, by simp, ?_, fun z hzr => ?_, fun s v hv => ⟨fun h => by simp at h, fun _ => ?_⟩, low, hO, hS⟩
  · have h1 := count_set (m := List.replicate N false) (i := z0) (by rw [List.getElem?_replicate, if_pos hz])
    have h2 : nFalse (List.replicate N false) = N := by simp [nFalse]
    simp only [List.length_cons, List.length_nil]
    omega
  · have h1 := mem_rng.1 hzr
    rw [mk_set]
    have h2 : mrk (List.replicate N false) z = false := by
      unfold mrk
      simp only [List.getD_eq_getElem?_getD, List.getElem?_replicate]
      split <;> rfl
    rw [h2, Bool.false_or]
    unfold hasI
    rw [List.contains_eq_any_beq]
    simp only [List.any_cons, List.any_nil, Bool.or_false, List.length_replicate]
    rw [Bool.eq_iff_iff]
    simp
    omega
  · rw [List.getElem?_replicate] at hv
    split at hv
    · exact (Option.some.inj hv).symm
    · cases hv
theorem drop_head {l : List Int} {i : Nat} {x : Int} {r : List Int} (h : x :: r = l.drop i) : l[i]? = some x ∧ r = l.drop (i + 1) := by
  have hi : i < l.length := by
    rcases Nat.lt_or_ge i l.length with h1 | h1
    · exact h1
    · rw [List.drop_of_length_le h1] at h; cases h
  rw [List.drop_eq_getElem_cons hi] at h
  cases h
  exact ⟨List.getElem?_eq_getElem hi, rfl⟩
set_option maxRecDepth 100000 in
set_option maxHeartbeats 8000000 in
theorem Graph_any (B : Nat) (A0 A1 A2 : Option Addr) (n0 n1 n2 c0 c1 c2 : Nat) (y : Yd) (w : World) (hY : YdAt w B A0 A1 A2 n0 n1 n2 y) (hB : B ≤ w.heap.size) (hP : Parts y) : Calls Tryz.prog 122 #[.agg #[.slice A0 n0 c0, .slice A1 n1 c1, .slice A2 n2 c2]] w (GrRes w y (2 ^ n1)) := by
  have hl0 := (sec_at hY.hs).1
  have hl1 := (sw_at hY.hw).1
  have hl2 := (pm_at hY.hp).1
  have h8 := hP.n8
  have h8' := hP.w8
  have h8'' := hP.p8
  have hp9 := pow9 (k := n1) (by omega)
  obtain ⟨N, hN⟩ : ∃ N : Nat, N = 2 ^ n1 := ⟨_, rfl⟩
  have hI : (2 : Int) ^ n1 = (N : Int) := by rw [hN]; simp
  have hN5 : N ≤ 512 := by have := hp9.2; omega
  have hN1 : 1 ≤ N := by have := hp9.1; omega
  have hn9 : n1 ≤ 9 := by omega
  rw [← hN]
  have HSt := Lib.hid (fun W (hW : Below w.heap.size w W) => rState_any B A0 A1 A2 n0 n1 n2 c0 c1 c2 y W (hY.below (hW.mono hB)) (by have := hW.size; omega) (by omega))
  have HWi := Lib.hid (fun W (hW : Below w.heap.size w W) s (hs : 0 ≤ s ∧ s < 512) => (rWith_any B A0 A1 A2 n0 n1 n2 c0 c1 c2 y s W (hY.below (hW.mono hB)) (by have := hW.size; omega) (by omega) (by omega) (by omega) hs.1 (by omega)).mono fun _ _ h => h.lens (m0 := y.s.length) (m1 := y.w.length) (m2 := y.p.length) rfl (at_lenR y s) rfl)
  have HWh := Lib.hid (fun W D0 D1 D2 d0 d1 d2 c (hz : YdAt W W.heap.size D0 D1 D2 y.s.length y.w.length y.p.length (y.at c)) k (hk : k < y.w.length) => rWhy_any W.heap.size D0 D1 D2 _ _ _ d0 d1 d2 (y.at c) W hz (Nat.le_refl _) (hP.at c) k (by rw [at_lenW]; exact hk))
  have HMv := Lib.hid (fun W D0 D1 D2 d0 d1 d2 c (hz : YdAt W W.heap.size D0 D1 D2 y.s.length y.w.length y.p.length (y.at c)) k (hk : k < y.w.length) => (rMoved_any W.heap.size D0 D1 D2 _ _ _ d0 d1 d2 (y.at c) k W hz (Nat.le_refl _) (by omega) (by omega) (by omega) (by rw [at_lenR]; exact hk)).mono fun _ _ h => h.lens (m0 := y.s.length) (m1 := y.w.length) (m2 := y.p.length) rfl (mv_lenR y c k) rfl)
  have HSm := Lib.hid (fun W D0 D1 D2 d0 d1 d2 s k (hz : YdAt W W.heap.size D0 D1 D2 y.s.length y.w.length y.p.length ((y.at s).mv k)) => rState_any W.heap.size D0 D1 D2 y.s.length y.w.length y.p.length d0 d1 d2 ((y.at s).mv k) W hz (Nat.le_refl _) (by omega))
  have hy0 := stUp_bd y.w n1
  obtain ⟨z0, hz0⟩ := Int.eq_ofNat_of_zero_le hy0.1
  have hz0N : z0 < N := by have := hy0.2; omega
  have HY0 : Hid (y0 y = (z0 : Int)) := by show _ = _; unfold y0; rw [hl1, hz0]
  have HL0 := Lib.hid hl0
  have HL1 := Lib.hid hl1
  have HL2 := Lib.hid hl2
  have HNn := Lib.hid hN
  rw [hz0] at HSt
  obtain ⟨ht, ⟨ix, z, g1, g2, g3, g4, g5⟩, hp⟩ := elemBool
  have hz : z = .bool false := by
    have : (Tryz.prog.info? 4).bind (·.zero) = some (.bool false) := by kernel_rfl
    rw [g1] at this
    simpa [g2] using this
  subst hz
  obtain ⟨ht', ⟨ix', z', g1', g2', g3', g4', g5'⟩, hp'⟩ := elemII
  have hz' : z' = .slice none 0 0 := by
    have : (Tryz.prog.info? 29).bind (·.zero) = some (.slice none 0 0) := by kernel_rfl
    rw [g1'] at this
    simpa [g2'] using this
  subst hz'
  have hm1 : ∀ w, (Instr.makeSlice 52 (.int .i64 (N : Int)) (.int .i64 (N : Int))).run Tryz.prog w = .ok (.slice (some ⟨w.heap.size, 0, none⟩) N N) (w.alloc (.cells (List.replicate N (Value.slice none 0 0)).toArray 29)) := fun w => by
    have := run_make (P := Tryz.prog) w _ _ ix' (.slice none 0 0) ht' g1' g2' .i64 .i64 (N : Int) (N : Int) (by omega) (by omega) (by rw [g4']; omega) (by omega)
    rw [g3'] at this
    simpa [made_nils] using this
  have hm2 : ∀ w, (Instr.makeSlice 193 (.int .i64 (N : Int)) (.int .i64 (N : Int))).run Tryz.prog w = .ok (.slice (some ⟨w.heap.size, 0, none⟩) N N) (w.alloc (.cells (bls (List.replicate N false)) 4)) := fun w => by
    have := run_make (P := Tryz.prog) w _ _ ix (.bool false) ht g1 g2 .i64 .i64 (N : Int) (N : Int) (by omega) (by omega) (by rw [g4]; omega) (by omega)
    rw [g3] at this
    simpa [made_bools] using this
  clear g1 g2 g3 g4 g5 ht hp g1' g2' g3' g4' g5' ht' hp' hY hP hl0 hl1 hl2 hz0 hy0 hN
  have hsz0 : (z0 : Int) < (N : Int) := by omega
  go_enter Tryz.func122, Tryz.ntmps122
  go_wp2_with fail
  refine (HSt.out _ bl_).mono ?_
  (rintro e w1 ⟨rfl, hb1⟩; have hs1 := hb1.size; (try simp at hs1))
  have B1O := Lib.hid (show Blk w1 (w.heap.size + 1) 29 (List.replicate N (Value.slice none 0 0)).toArray by rw [List.toArray_replicate]; exact bk_)
  have B1Y := Lib.hid (bk_ : Blk w1 w.heap.size 26 #[.slice A0 n0 c0, .slice A1 n1 c1, .slice A2 n2 c2])
  have HB1 := Lib.hid (bl_ : Below w.heap.size w w1)
  have cY := B1Y.out.cell
  have lY := B1Y.out.lt
  clear hb1
  have hb1 := HB1.out
  go_wp2_with fail
  refine (HSt.out _ bl_).mono ?_
  (rintro e w2 ⟨rfl, hb2⟩; have hs2 := hb2.size; (try simp at hs2))
  have hs1 := HB1.out.size
  have B2O := Lib.hid ((((B1O.out.alloc (.cells #[.int .i64 (z0 : Int)] 3)).alloc (.cells (bls (List.replicate N false)) 4))).kept hb2)
  have B2Y := Lib.hid ((((B1Y.out.alloc (.cells #[.int .i64 (z0 : Int)] 3)).alloc (.cells (bls (List.replicate N false)) 4))).kept hb2)
  have B2S := Lib.hid ((Blk.new_at (w := w1.alloc (.cells #[.int .i64 (z0 : Int)] 3)) (g := w1.heap.size + 1) 4 (bls (List.replicate N false)) (by simp)).kept hb2)
  have Q2 := Lib.hid (((Que.lit w1 w.heap.size hs1 (z0 : Int)).kept ((Below.refl _ _).alloc (Nat.le_refl _) (.cells (bls (List.replicate N false)) 4))).kept hb2)
  have c2S := B2S.out.cell
  have f2S := B2S.out.frozen
  have l2S := B2S.out.lt
  have gz := bls_get (List.replicate N false) z0 (by simp; exact hz0N)
  have HB2 := Lib.hid (bl_ : Below w.heap.size w w2)
  have HSt0 := Lib.hid (Blk.far (p := ⟨w1.heap.size + 1, z0, none⟩) B2Y.out (by simp; omega) (.bool true))
  have HO0 := Lib.hid (Blk.far (p := ⟨w1.heap.size + 1, z0, none⟩) B2O.out (by simp; omega) (.bool true))
  have HS0 := Lib.hid (B2S.out.set_ z0 (.bool true))
  rw [bls_set] at HS0
  have HQ0 := Lib.hid (Q2.out.same (W' := w2.setCell ⟨w1.heap.size + 1, z0, none⟩ (.bool true)) (Below.heap_setCell w2 ⟨w1.heap.size + 1, z0, none⟩ _ w1.heap.size (by simp)))
  have HL00 := Lib.hid (Below.setCell HB2.out (p := ⟨w1.heap.size + 1, z0, none⟩) (by simp; omega) (.bool true))
  have HMd := Lib.hid (HY0.out ▸ y0_in y : (z0 : Int) ∈ rng (2 ^ y.w.length))
  generalize bls (List.replicate N false) = bz at *
  clear hb1 hb2 cY lY B1O B1Y B2O B2Y B2S Q2
  go_wp2_with fail
  have hO1 : w.heap.size < w.heap.size + 1 := Nat.lt_succ_self _
  have hS1 : w.heap.size < w1.heap.size + 1 := by omega
  generalize hOO : w.heap.size + 1 = O at *
  generalize hSS : w1.heap.size + 1 = S at *
  go_loopw [4] (fun v4 wr => GrOR w O S A0 A1 A2 n0 n1 n2 c0 c1 c2 y N v4 wr) (fun v4 wr => 2 * offs wr S N + qlen v4)
  case atStart => exact ⟨_, _, 0, _, _, _, _, _, rfl, rfl, GrO.start HSt0.out HO0.out HS0.out HQ0.out hz0N HL00.out hO1 hS1, by rw [← HY0.out, HNn.out, ← HL1.out]; exact Bf.start (y0_in y)⟩
  case round =>
    clear c2S f2S l2S gz hs2 HSt0 HO0 HS0 HQ0 HL00 HMd HB2 HB1
    obtain ⟨vs, sm, i, l, q, b, off, cap, rfl, hq, hG, hBf⟩ := hrel
    have hsr := hG.low.size
    have hOf := offs_eq hG.seen hG.sl
    have hsn := hG.sn
    cases q with
    | nil =>
      have hil : i = l.length := by
        have h1 := hBf.le
        have h2 : l.length ≤ i := by
          have := congrArg List.length hq
          rw [List.length_drop] at this
          simp at this
          omega
        omega
      have HD := Lib.hid (hG.done (by rw [HNn.out, ← HL1.out] at hBf; exact hBf) hil)
      have HLo := Lib.hid hG.low
      clear hG hBf hq
      go_wp2_with fail
      go_ret
      exact ⟨some ⟨O, 0, none⟩, N, vs, rfl, HD.out, HLo.out⟩
    | cons x r =>
      obtain ⟨hlx, hrd⟩ := drop_head hq
      have hxl : x ∈ l := List.mem_of_getElem? hlx
      have hxr := mem_rng.1 (hBf.un x hxl)
      obtain ⟨c, rfl⟩ := Int.eq_ofNat_of_zero_le hxr.1
      have hcN : c < N := by omega
      have hcn : (c : Int) ∉ l.take i := by
        intro hm
        obtain ⟨a, ha, e⟩ := List.getElem_of_mem hm
        rw [List.length_take] at ha
        rw [List.getElem_take] at e
        have hil := (List.getElem?_eq_some_iff.1 hlx).1
        have e2 := (List.getElem?_eq_some_iff.1 hlx).2
        exact absurd ((List.getElem_inj hBf.nd).1 (e.trans e2.symm)) (by omega)
      have zc : wr.cell? ⟨b, off, none⟩ = some (.int .i64 (c : Int)) := by simpa using hG.que.cellAt 0 (c : Int) rfl
      have lb := hG.que.lt
      have hrl : r.length + 1 ≤ cap := hG.que.le
      have hcm := hG.que.max
      have cY := hG.box.cell
      have lY := hG.box.lt
      have hll : l.length ≤ N := by omega
      have hrl2 : r.length + 1 ≤ 512 := by
        have := congrArg List.length hq
        rw [List.length_drop] at this
        simp only [List.length_cons] at this
        omega
      have HG := Lib.hid hG
      have HBf := Lib.hid hBf
      have HWc := Lib.hid (fun W hW => HWi.out W hW (c : Int) ⟨by omega, by omega⟩)
      have HOf := Lib.hid hOf
      have HRd := Lib.hid hrd
      have HLx := Lib.hid hlx
      have HCn := Lib.hid hcn
      clear hG hBf hOf hq hxl hxr hrd hlx hcn
      unfold maxLen at hcm
      by_cases hc1 : cap = 1
      · subst hc1
        have HQT := Lib.hid HG.out.que.tail1
        obtain rfl : r = [] := List.eq_nil_of_length_eq_zero (by omega)
        go_wp2_with fail
        refine (HWc.out _ HG.out.low).mono ?_
        rintro e w3 ⟨D0, D1, D2, d0, d1, d2, rfl, hO, hb3⟩
        have hs3 := hb3.size
        have hl3 : w.heap.size ≤ w3.heap.size := by omega
        have hzr := YdR.of_row (X := [b, O, S]) hO (fun x hx => by
          simp only [List.mem_cons, List.not_mem_nil, or_false] at hx
          have h1 := HG.out.out.lt
          have h2 := HG.out.seen.lt
          rcases hx with rfl | rfl | rfl <;> omega)
        rw [at_lenR] at hzr
        have HZ3 := Lib.hid (hzr : YdR [b, O, S] w3 (y.at c) D0 D1 D2 y.s.length y.w.length y.p.length)
        have HG3 := Lib.hid (HG.out.kept hb3)
        have HQ3 := Lib.hid (HQT.out.kept hb3)
        clear hO hzr cY lY zc
        go_wp2_with fail
        have h7 : w.heap.size < w3.heap.size := by have := HG3.out.out.lt; omega
        have HN4 := Lib.hid (Blk.new w3 26 #[.slice D0 y.s.length d0, .slice D1 y.w.length d1, .slice D2 y.p.length d2])
        have HX4 := Lib.hid ((Below.refl w3.heap.size w3).alloc (Nat.le_refl _) (.cells #[.slice D0 y.s.length d0, .slice D1 y.w.length d1, .slice D2 y.p.length d2] 26))
        have HJ0 := Lib.hid ((HG3.out.kept HX4.out).enter (HQ3.out.kept HX4.out) hcN HCn.out HN4.out (HZ3.out.ex (Ex.of_below HX4.out)) h7)
        have HSeen := Lib.hid HG.out.seen
        have HSn : Hid (nFalse sm + l.length = N) := Lib.hid hsn
        clear HG HG3 HQ3 HQT HZ3 HN4 HX4 hb3 lb hsn
        go_loopw [4, 8] (fun v4 iv wx => ∃ k : Nat, k ≤ n1 ∧ iv = .int .i64 k ∧ GrJR w O S A0 A1 A2 n0 n1 n2 c0 c1 c2 y N vs i l c w3.heap.size D0 D1 D2 d0 d1 d2 k v4 wx) (fun _ iv _ => n1 - (intOf iv).toNat)
        case atStart => exact ⟨0, by omega, rfl, sm, l, _, b, off, 0, .slice none 0 0, rfl, rfl, HRd.out, HJ0.out⟩
        case round =>
          clear HJ0
          rename World => wo
          obtain ⟨k, hk, rfl, sm', m, q, b', off', cap', v, rfl, hm, hqd, hJ⟩ := hrel
          have hsx := hJ.low.size
          have hzx := hJ.yd _ (Ex.refl _ _)
          have c7 := hJ.now.cell
          have l7 := hJ.now.lt
          have cY := hJ.box.cell
          have lY := hJ.box.lt
          have HM := Lib.hid hm
          have HQd := Lib.hid hqd
          have HJ := Lib.hid hJ
          clear hm hqd hJ
          by_cases hlt : k < n1
          · have hky : k < y.w.length := by rw [HL1.out]; exact hlt
            have HWk := Lib.hid (fun W D0 D1 D2 d0 d1 d2 hz => HWh.out W D0 D1 D2 d0 d1 d2 (c : Int) hz k hky)
            have HMk := Lib.hid (fun W D0 D1 D2 d0 d1 d2 hz => HMv.out W D0 D1 D2 d0 d1 d2 (c : Int) hz k hky)
            have HSk := Lib.hid (fun W D0 D1 D2 d0 d1 d2 hz => HSm.out W D0 D1 D2 d0 d1 d2 (c : Int) k hz)
            have hbd := gCell_bd y (c : Int) k
            have hst := out_step y (c : Int) l k
            have HNx := Lib.hid (nmL_nil (whyN_le (y.at c) k))
            rw [← HM.out] at hst
            have zOx : wo.cell? ⟨O, c, none⟩ = some v := by rw [HJ.out.out.cell, List.getElem?_toArray, List.getElem?_set_self (by rw [HJ.out.vl]; exact hcN)]
            cases hf : (whyN (y.at c) k == 0) with
            | false =>
              have hcell : gCell y (c : Int) k = -1 := by unfold gCell freeS; rw [hf]; rfl
              have HGC : Hid (gCell y (c : Int) k = -1) := Lib.hid hcell
              rw [hcell] at hst
              have HMn : Hid (m = addAll l (outS y c (k + 1))) := by show _ = _; rw [hst]; rfl
              rw [hf] at HNx
              have hnn := HNx.out
              clear hbd hst hcell hf HMk HSk
              generalize nmL (whyN (y.at c) k) = nv at *
              go_wp2_with fail
              refine (HWk.out _ _ _ _ _ _ _ hzx).mono ?_
              (rintro e w5 ⟨rfl, hb5⟩; have hs5 := hb5.size; (try simp at hs5))
              have HJ5 := Lib.hid (HJ.out.kept hb5)
              have zO5 : w5.cell? ⟨O, c, none⟩ = some v := (Below.cell hb5 HJ.out.out.lt).trans zOx
              clear zOx HJ hzx c7 l7 cY lY hb5 HWk HNx
              have HJL := Lib.hid (HJ5.out.kept ((Below.refl _ _).alloc (Nat.le_refl _) (.cells #[.int .i64 (-1)] 3)))
              have zO := zO5
              have fO := HJ5.out.out.frozen
              have lO := HJ5.out.out.lt
              go_wp2_with (at_builtin; refine wpList_appB 29 3 1 8 elemInt rfl (.tmp 56) (.tmp 58) rfl w.heap.size v k ((gRow y c k).map (.int .i64)) rfl HJL.out.row w5.heap.size 1 #[.int .i64 (-1)] rfl (Blk.new _ _ _) rfl ?h1 (by decide) ?h3 ?h4 ?h5 ?_)
              case h1 => first | rfl | (intro u hu; simp at hu; subst hu; rfl)
              case h3 => unfold maxLen; omega
              case h4 => omega
              case h5 => exact HJL.out.low.size
              intro g' capN wA hownA hgA hatA
              obtain ⟨kO, hJA⟩ := HJL.out.put hgA (hatA.imp id (fun e => by rw [e]; simp)) (show Own wA w.heap.size 3 1 g' (k + 1) capN ((gRow y c (k + 1)).map (.int .i64)) by rw [gRow_succ, List.map_append, HGC.out]; exact hownA)
              have zOA : wA.cell? ⟨O, c, none⟩ = some v := by rw [kO.cell, List.getElem?_toArray, List.getElem?_set_self (by rw [hJA.vl]; exact hcN)]
              have fOA := kO.frozen
              have lOA := kO.lt
              have HJA := Lib.hid hJA
              clear hJA kO hownA hgA hatA zO fO lO
              go_wp2_with fail
              go_roundw
              case rel => exact ⟨k + 1, by omega, by go_num, sm', m, q, b', off', cap', _, rfl, HMn.out, HQd.out, HJA.out⟩
              case measure => simp [intOf]; omega
            | true =>
              obtain ⟨z, hz⟩ := Int.eq_ofNat_of_zero_le (nextS_pos y (c : Int) k)
              have hcell : gCell y (c : Int) k = (z : Int) := by unfold gCell freeS; rw [hf]; simpa using hz
              have HGC : Hid (gCell y (c : Int) k = (z : Int)) := Lib.hid hcell
              have hzN : z < N := by
                have h1 := (mem_rng.1 (nextS_in y (c : Int) k)).2
                rw [hz, HL1.out, ← HNn.out] at h1
                omega
              rw [hcell] at hst
              have HST := Lib.hid hst
              rw [st_next, hz] at HSk
              rw [hf] at HNx
              have hnn := HNx.out
              have hsvz := HJ.out.sv (z : Int) (mem_rng.2 ⟨by omega, by omega⟩)
              have HSv := Lib.hid hsvz
              clear hbd hst hcell hf hz hsvz
              generalize nmL (whyN (y.at c) k) = nv at *
              go_wp2_with fail
              refine (HWk.out _ _ _ _ _ _ _ hzx).mono ?_
              (rintro e w5 ⟨rfl, hb5⟩; have hs5 := hb5.size; (try simp at hs5))
              have HJ5 := Lib.hid (HJ.out.kept hb5)
              have zO5 : w5.cell? ⟨O, c, none⟩ = some v := (Below.cell hb5 HJ.out.out.lt).trans zOx
              have hz5 := HJ5.out.yd _ (Ex.refl _ _)
              replace c7 := HJ5.out.now.cell
              replace l7 := HJ5.out.now.lt
              clear zOx HJ hzx cY lY hb5 HWk HNx
              go_wp2_with fail
              refine (HMk.out _ _ _ _ _ _ _ hz5).mono ?_
              rintro e w6 ⟨E0, E1, E2, e0, e1, e2, rfl, hO, hb6⟩
              have hs6 := hb6.size
              have hza := hO.yd
              rw [mv_lenR] at hza
              have HZa := Lib.hid (show YdAt w6 w6.heap.size E0 E1 E2 y.s.length y.w.length y.p.length ((y.at c).mv k) from hza)
              have HJ6 := Lib.hid (HJ5.out.kept hb6)
              have zO6 : w6.cell? ⟨O, c, none⟩ = some v := (Below.cell hb6 HJ5.out.out.lt).trans zO5
              clear hO hza c7 l7 HMk hz5 zO5 hb6 HJ5
              go_wp2_with fail
              refine (HSk.out _ _ _ _ _ _ _ HZa.out).mono ?_
              (rintro e w7 ⟨rfl, hb7⟩; have hs7 := hb7.size; (try simp at hs7))
              have HJ7 := Lib.hid (HJ6.out.kept hb7)
              have zO7 : w7.cell? ⟨O, c, none⟩ = some v := (Below.cell hb7 HJ6.out.out.lt).trans zO6
              clear HSk HZa HJ6 zO6 hb7
              have HJL := Lib.hid (HJ7.out.kept ((Below.refl _ _).alloc (Nat.le_refl _) (.cells #[.int .i64 (z : Int)] 3)))
              have zO := zO7
              have fO := HJ7.out.out.frozen
              have lO := HJ7.out.out.lt
              go_wp2_with (at_builtin; refine wpList_appB 29 3 1 8 elemInt rfl (.tmp 56) (.tmp 58) rfl w.heap.size v k ((gRow y c k).map (.int .i64)) rfl HJL.out.row w7.heap.size 1 #[.int .i64 (z : Int)] rfl (Blk.new _ _ _) rfl ?h1 (by decide) ?h3 ?h4 ?h5 ?_)
              case h1 => first | rfl | (intro u hu; simp at hu; subst hu; rfl)
              case h3 => unfold maxLen; omega
              case h4 => omega
              case h5 => exact HJL.out.low.size
              intro g' capN wA hownA hgA hatA
              obtain ⟨kO, hJA⟩ := HJL.out.put hgA (hatA.imp id (fun e => by rw [e]; simp)) (show Own wA w.heap.size 3 1 g' (k + 1) capN ((gRow y c (k + 1)).map (.int .i64)) by rw [gRow_succ, List.map_append, HGC.out]; exact hownA)
              have zOA : wA.cell? ⟨O, c, none⟩ = some v := by rw [kO.cell, List.getElem?_toArray, List.getElem?_set_self (by rw [hJA.vl]; exact hcN)]
              have fOA := kO.frozen
              have lOA := kO.lt
              have HJA := Lib.hid hJA
              clear hJA kO hownA hgA hatA zO fO lO
              have cS := HJA.out.seen.cell
              have fS := HJA.out.seen.frozen
              have lS := HJA.out.seen.lt
              have gS := bls_get sm' z (by rw [HJA.out.sl]; exact hzN)
              rw [HSv.out] at gS
              have hOS : O ≠ S := blk_neT HJA.out.out HJA.out.seen (by decide)
              have zS : wA.cell? ⟨S, z, none⟩ = some (.bool (hasI m z)) := by
                have h1 := (cS z).trans gS
                exact (World.cell?_of_block (a := ⟨S, z, none⟩) (Below.heap_setCell wA ⟨O, c, none⟩ _ S hOS.symm)).symm.trans h1
              cases hh : hasI m (z : Int) with
              | true =>
                rw [hh] at gS zS
                have HMn : Hid (m = addAll l (outS y c (k + 1))) := by show _ = _; rw [HST.out]; unfold gAdd; rw [hh]; simp
                go_wp2_with fail
                go_roundw
                case rel => exact ⟨k + 1, by omega, by go_num, sm', m, q, b', off', cap', _, rfl, HMn.out, HQd.out, HJA.out⟩
                case measure => simp [intOf]; omega
              | false =>
                rw [hh] at gS zS
                have HMn : Hid (m ++ [(z : Int)] = addAll l (outS y c (k + 1))) := by show _ = _; rw [HST.out]; unfold gAdd; rw [hh]; simp
                have hil := (List.getElem?_eq_some_iff.1 HLx.out).1
                have hpl := (addAll_pre (outS y (c : Int) k) l).length_le
                rw [← HM.out] at hpl
                have HQn : Hid (q ++ [(z : Int)] = (m ++ [(z : Int)]).drop (i + 1)) := by show _ = _; rw [HQd.out, List.drop_append_of_le_length (by omega)]
                have hql : q.length ≤ 512 := by
                  have h1 := congrArg List.length HQd.out
                  have h2 := HJA.out.sn
                  rw [List.length_drop] at h1
                  omega
                obtain ⟨curq, hqb, _, _⟩ := HJA.out.que.cur
                have hSb : S ≠ b' := blk_neT HJA.out.seen hqb (by decide)
                have HQL := Lib.hid ((HJA.out.que.same (W' := (wA.setCell ⟨O, c, none⟩ (.slice (some ⟨g', 0, none⟩) (k + 1) capN)).setCell ⟨S, z, none⟩ (.bool true)) (Below.heap_setCell _ ⟨S, z, none⟩ _ b' hSb.symm)).kept ((Below.refl _ _).alloc (Nat.le_refl _) (.cells #[.int .i64 (z : Int)] 3)))
                have hlw := HJA.out.low.size
                have hba := HJA.out.que.lt
                simp only [World.size_setCell] at hlw hba
                clear hqb
                go_wp2_with (at_builtin; refine wpList_que 29 elemInt rfl (.tmp 73) (.tmp 75) rfl HQL.out rfl (z : Int) wA.heap.size 1 (by show Value.slice (some ⟨_, 0, none⟩) 1 1 = _; simp) ?hbl ?hn ?hbase ?_)
                case hbl => exact (Blk.new_at (w := (wA.setCell ⟨O, c, none⟩ (.slice (some ⟨g', 0, none⟩) (k + 1) capN)).setCell ⟨S, z, none⟩ (.bool true)) 3 #[.int .i64 (z : Int)] (by simp)).cell 0
                case hn => omega
                case hbase => simp; omega
                intro bN offN capM wB hqN hgB hatB
                have HJB := Lib.hid (HJA.out.mark hzN hh hqN (World.grownBy_trans_alloc hgB) (hatB.imp id (fun e => by rw [e]; simp)))
                clear hqN hgB hatB HQL
                go_wp2_with fail
                go_roundw
                case rel => exact ⟨k + 1, by omega, by go_num, _, _, _, bN, offN, capM, _, by rw [List.length_append]; rfl, HMn.out, HQn.out, HJB.out⟩
                case measure => simp [intOf]; omega
          · obtain rfl : n1 = k := by omega
            have hil := (List.getElem?_eq_some_iff.1 HLx.out).1
            have hpl := addAll_pre (outS y (c : Int) n1) l
            rw [← HM.out] at hpl
            have HPl := Lib.hid hpl
            have hbn := HBf.out.next (by rw [HNn.out, ← HL1.out]; exact nbS_in y) HLx.out
            have HBn : Hid (Bf (nbS y) (y0 y) (rng N) (i + 1) m) := by
              show Bf _ _ _ _ _
              rw [HM.out]
              unfold nbS at hbn ⊢
              rw [HL1.out] at hbn ⊢
              exact hbn
            have hqn : q.length + (i + 1) = m.length := by
              have h1 := congrArg List.length HQd.out
              have h2 := hpl.length_le
              rw [List.length_drop] at h1
              omega
            have hll2 := hpl.length_le
            have hsm2 := HJ.out.sn
            have hrl3 := congrArg List.length HRd.out
            rw [List.length_drop] at hrl3
            have hof := HOf.out
            have hsn0 := HSn.out
            have zOx : wo.cell? ⟨O, c, none⟩ = some v := by rw [HJ.out.out.cell, List.getElem?_toArray, List.getElem?_set_self (by rw [HJ.out.vl]; exact hcN)]
            clear hpl hbn hzx
            by_cases hn0 : n1 = 0
            · subst hn0
              have fO := HJ.out.out.frozen
              have lO := HJ.out.out.lt
              obtain ⟨_, hJE⟩ := HJ.out.put (W' := wo.alloc (.cells #[] 3)) (g' := wo.heap.size) (k' := 0) (cap' := 0) (World.grownBy_alloc _ _ _) (.inr (Nat.le_refl _)) (Own.new wo w.heap.size 3 1 0 #[] HJ.out.low.size rfl (by unfold maxLen; decide))
              rw [World.setCell_alloc_past (hn := lO)] at hJE
              have HGE := Lib.hid (hJE.leave HL1.out.symm HPl.out HLx.out)
              have hoe := offs_eq HGE.out.seen HGE.out.sl
              clear hJE
              go_wp2_with fail
              go_roundw
              case rel => exact ⟨_, sm', i + 1, m, q, b', off', cap', rfl, HQd.out, HGE.out, HBn.out⟩
              case measure =>
                simp only [qlen]
                rw [hoe, hof]
                simp only [List.length_cons, List.length_nil] at *
                omega
            · obtain ⟨AV, capV, rfl, _, _, _⟩ := own_form HJ.out.row
              obtain ⟨gV, rfl⟩ := own_some HJ.out.row (by omega)
              have HGE := Lib.hid (HJ.out.leave HL1.out.symm HPl.out HLx.out)
              have hoe := offs_eq HGE.out.seen HGE.out.sl
              go_wp2_with fail
              go_roundw
              case rel => exact ⟨_, sm', i + 1, m, q, b', off', cap', rfl, HQd.out, HGE.out, HBn.out⟩
              case measure =>
                simp only [qlen]
                rw [hoe, hof]
                simp only [List.length_cons, List.length_nil] at *
                omega
      · have HQT := Lib.hid HG.out.que.tail
        go_wp2_with fail
        refine (HWc.out _ HG.out.low).mono ?_
        rintro e w3 ⟨D0, D1, D2, d0, d1, d2, rfl, hO, hb3⟩
        have hs3 := hb3.size
        have hl3 : w.heap.size ≤ w3.heap.size := by omega
        have hzr := YdR.of_row (X := [b, O, S]) hO (fun x hx => by
          simp only [List.mem_cons, List.not_mem_nil, or_false] at hx
          have h1 := HG.out.out.lt
          have h2 := HG.out.seen.lt
          rcases hx with rfl | rfl | rfl <;> omega)
        rw [at_lenR] at hzr
        have HZ3 := Lib.hid (hzr : YdR [b, O, S] w3 (y.at c) D0 D1 D2 y.s.length y.w.length y.p.length)
        have HG3 := Lib.hid (HG.out.kept hb3)
        have HQ3 := Lib.hid (HQT.out.kept hb3)
        clear hO hzr cY lY zc
        go_wp2_with fail
        have h7 : w.heap.size < w3.heap.size := by have := HG3.out.out.lt; omega
        have HN4 := Lib.hid (Blk.new w3 26 #[.slice D0 y.s.length d0, .slice D1 y.w.length d1, .slice D2 y.p.length d2])
        have HX4 := Lib.hid ((Below.refl w3.heap.size w3).alloc (Nat.le_refl _) (.cells #[.slice D0 y.s.length d0, .slice D1 y.w.length d1, .slice D2 y.p.length d2] 26))
        have HJ0 := Lib.hid ((HG3.out.kept HX4.out).enter (HQ3.out.kept HX4.out) hcN HCn.out HN4.out (HZ3.out.ex (Ex.of_below HX4.out)) h7)
        have HSeen := Lib.hid HG.out.seen
        have HSn : Hid (nFalse sm + l.length = N) := Lib.hid hsn
        clear HG HG3 HQ3 HQT HZ3 HN4 HX4 hb3 lb hsn
        go_loopw [4, 8] (fun v4 iv wx => ∃ k : Nat, k ≤ n1 ∧ iv = .int .i64 k ∧ GrJR w O S A0 A1 A2 n0 n1 n2 c0 c1 c2 y N vs i l c w3.heap.size D0 D1 D2 d0 d1 d2 k v4 wx) (fun _ iv _ => n1 - (intOf iv).toNat)
        case atStart => exact ⟨0, by omega, rfl, sm, l, _, b, off + 1, cap - 1, .slice none 0 0, rfl, rfl, HRd.out, HJ0.out⟩
        case round =>
          clear HJ0
          rename World => wo
          obtain ⟨k, hk, rfl, sm', m, q, b', off', cap', v, rfl, hm, hqd, hJ⟩ := hrel
          have hsx := hJ.low.size
          have hzx := hJ.yd _ (Ex.refl _ _)
          have c7 := hJ.now.cell
          have l7 := hJ.now.lt
          have cY := hJ.box.cell
          have lY := hJ.box.lt
          have HM := Lib.hid hm
          have HQd := Lib.hid hqd
          have HJ := Lib.hid hJ
          clear hm hqd hJ
          by_cases hlt : k < n1
          · have hky : k < y.w.length := by rw [HL1.out]; exact hlt
            have HWk := Lib.hid (fun W D0 D1 D2 d0 d1 d2 hz => HWh.out W D0 D1 D2 d0 d1 d2 (c : Int) hz k hky)
            have HMk := Lib.hid (fun W D0 D1 D2 d0 d1 d2 hz => HMv.out W D0 D1 D2 d0 d1 d2 (c : Int) hz k hky)
            have HSk := Lib.hid (fun W D0 D1 D2 d0 d1 d2 hz => HSm.out W D0 D1 D2 d0 d1 d2 (c : Int) k hz)
            have hbd := gCell_bd y (c : Int) k
            have hst := out_step y (c : Int) l k
            have HNx := Lib.hid (nmL_nil (whyN_le (y.at c) k))
            rw [← HM.out] at hst
            have zOx : wo.cell? ⟨O, c, none⟩ = some v := by rw [HJ.out.out.cell, List.getElem?_toArray, List.getElem?_set_self (by rw [HJ.out.vl]; exact hcN)]
            cases hf : (whyN (y.at c) k == 0) with
            | false =>
              have hcell : gCell y (c : Int) k = -1 := by unfold gCell freeS; rw [hf]; rfl
              have HGC : Hid (gCell y (c : Int) k = -1) := Lib.hid hcell
              rw [hcell] at hst
              have HMn : Hid (m = addAll l (outS y c (k + 1))) := by show _ = _; rw [hst]; rfl
              rw [hf] at HNx
              have hnn := HNx.out
              clear hbd hst hcell hf HMk HSk
              generalize nmL (whyN (y.at c) k) = nv at *
              go_wp2_with fail
              refine (HWk.out _ _ _ _ _ _ _ hzx).mono ?_
              (rintro e w5 ⟨rfl, hb5⟩; have hs5 := hb5.size; (try simp at hs5))
              have HJ5 := Lib.hid (HJ.out.kept hb5)
              have zO5 : w5.cell? ⟨O, c, none⟩ = some v := (Below.cell hb5 HJ.out.out.lt).trans zOx
              clear zOx HJ hzx c7 l7 cY lY hb5 HWk HNx
              have HJL := Lib.hid (HJ5.out.kept ((Below.refl _ _).alloc (Nat.le_refl _) (.cells #[.int .i64 (-1)] 3)))
              have zO := zO5
              have fO := HJ5.out.out.frozen
              have lO := HJ5.out.out.lt
              go_wp2_with (at_builtin; refine wpList_appB 29 3 1 8 elemInt rfl (.tmp 56) (.tmp 58) rfl w.heap.size v k ((gRow y c k).map (.int .i64)) rfl HJL.out.row w5.heap.size 1 #[.int .i64 (-1)] rfl (Blk.new _ _ _) rfl ?h1 (by decide) ?h3 ?h4 ?h5 ?_)
              case h1 => first | rfl | (intro u hu; simp at hu; subst hu; rfl)
              case h3 => unfold maxLen; omega
              case h4 => omega
              case h5 => exact HJL.out.low.size
              intro g' capN wA hownA hgA hatA
              obtain ⟨kO, hJA⟩ := HJL.out.put hgA (hatA.imp id (fun e => by rw [e]; simp)) (show Own wA w.heap.size 3 1 g' (k + 1) capN ((gRow y c (k + 1)).map (.int .i64)) by rw [gRow_succ, List.map_append, HGC.out]; exact hownA)
              have zOA : wA.cell? ⟨O, c, none⟩ = some v := by rw [kO.cell, List.getElem?_toArray, List.getElem?_set_self (by rw [hJA.vl]; exact hcN)]
              have fOA := kO.frozen
              have lOA := kO.lt
              have HJA := Lib.hid hJA
              clear hJA kO hownA hgA hatA zO fO lO
              go_wp2_with fail
              go_roundw
              case rel => exact ⟨k + 1, by omega, by go_num, sm', m, q, b', off', cap', _, rfl, HMn.out, HQd.out, HJA.out⟩
              case measure => simp [intOf]; omega
            | true =>
              obtain ⟨z, hz⟩ := Int.eq_ofNat_of_zero_le (nextS_pos y (c : Int) k)
              have hcell : gCell y (c : Int) k = (z : Int) := by unfold gCell freeS; rw [hf]; simpa using hz
              have HGC : Hid (gCell y (c : Int) k = (z : Int)) := Lib.hid hcell
              have hzN : z < N := by
                have h1 := (mem_rng.1 (nextS_in y (c : Int) k)).2
                rw [hz, HL1.out, ← HNn.out] at h1
                omega
              rw [hcell] at hst
              have HST := Lib.hid hst
              rw [st_next, hz] at HSk
              rw [hf] at HNx
              have hnn := HNx.out
              have hsvz := HJ.out.sv (z : Int) (mem_rng.2 ⟨by omega, by omega⟩)
              have HSv := Lib.hid hsvz
              clear hbd hst hcell hf hz hsvz
              generalize nmL (whyN (y.at c) k) = nv at *
              go_wp2_with fail
              refine (HWk.out _ _ _ _ _ _ _ hzx).mono ?_
              (rintro e w5 ⟨rfl, hb5⟩; have hs5 := hb5.size; (try simp at hs5))
              have HJ5 := Lib.hid (HJ.out.kept hb5)
              have zO5 : w5.cell? ⟨O, c, none⟩ = some v := (Below.cell hb5 HJ.out.out.lt).trans zOx
              have hz5 := HJ5.out.yd _ (Ex.refl _ _)
              replace c7 := HJ5.out.now.cell
              replace l7 := HJ5.out.now.lt
              clear zOx HJ hzx cY lY hb5 HWk HNx
              go_wp2_with fail
              refine (HMk.out _ _ _ _ _ _ _ hz5).mono ?_
              rintro e w6 ⟨E0, E1, E2, e0, e1, e2, rfl, hO, hb6⟩
              have hs6 := hb6.size
              have hza := hO.yd
              rw [mv_lenR] at hza
              have HZa := Lib.hid (show YdAt w6 w6.heap.size E0 E1 E2 y.s.length y.w.length y.p.length ((y.at c).mv k) from hza)
              have HJ6 := Lib.hid (HJ5.out.kept hb6)
              have zO6 : w6.cell? ⟨O, c, none⟩ = some v := (Below.cell hb6 HJ5.out.out.lt).trans zO5
              clear hO hza c7 l7 HMk hz5 zO5 hb6 HJ5
              go_wp2_with fail
              refine (HSk.out _ _ _ _ _ _ _ HZa.out).mono ?_
              (rintro e w7 ⟨rfl, hb7⟩; have hs7 := hb7.size; (try simp at hs7))
              have HJ7 := Lib.hid (HJ6.out.kept hb7)
              have zO7 : w7.cell? ⟨O, c, none⟩ = some v := (Below.cell hb7 HJ6.out.out.lt).trans zO6
              clear HSk HZa HJ6 zO6 hb7
              have HJL := Lib.hid (HJ7.out.kept ((Below.refl _ _).alloc (Nat.le_refl _) (.cells #[.int .i64 (z : Int)] 3)))
              have zO := zO7
              have fO := HJ7.out.out.frozen
              have lO := HJ7.out.out.lt
              go_wp2_with (at_builtin; refine wpList_appB 29 3 1 8 elemInt rfl (.tmp 56) (.tmp 58) rfl w.heap.size v k ((gRow y c k).map (.int .i64)) rfl HJL.out.row w7.heap.size 1 #[.int .i64 (z : Int)] rfl (Blk.new _ _ _) rfl ?h1 (by decide) ?h3 ?h4 ?h5 ?_)
              case h1 => first | rfl | (intro u hu; simp at hu; subst hu; rfl)
              case h3 => unfold maxLen; omega
              case h4 => omega
              case h5 => exact HJL.out.low.size
              intro g' capN wA hownA hgA hatA
              obtain ⟨kO, hJA⟩ := HJL.out.put hgA (hatA.imp id (fun e => by rw [e]; simp)) (show Own wA w.heap.size 3 1 g' (k + 1) capN ((gRow y c (k + 1)).map (.int .i64)) by rw [gRow_succ, List.map_append, HGC.out]; exact hownA)
              have zOA : wA.cell? ⟨O, c, none⟩ = some v := by rw [kO.cell, List.getElem?_toArray, List.getElem?_set_self (by rw [hJA.vl]; exact hcN)]
              have fOA := kO.frozen
              have lOA := kO.lt
              have HJA := Lib.hid hJA
              clear hJA kO hownA hgA hatA zO fO lO
              have cS := HJA.out.seen.cell
              have fS := HJA.out.seen.frozen
              have lS := HJA.out.seen.lt
              have gS := bls_get sm' z (by rw [HJA.out.sl]; exact hzN)
              rw [HSv.out] at gS
              have hOS : O ≠ S := blk_neT HJA.out.out HJA.out.seen (by decide)
              have zS : wA.cell? ⟨S, z, none⟩ = some (.bool (hasI m z)) := by
                have h1 := (cS z).trans gS
                exact (World.cell?_of_block (a := ⟨S, z, none⟩) (Below.heap_setCell wA ⟨O, c, none⟩ _ S hOS.symm)).symm.trans h1
              cases hh : hasI m (z : Int) with
              | true =>
                rw [hh] at gS zS
                have HMn : Hid (m = addAll l (outS y c (k + 1))) := by show _ = _; rw [HST.out]; unfold gAdd; rw [hh]; simp
                go_wp2_with fail
                go_roundw
                case rel => exact ⟨k + 1, by omega, by go_num, sm', m, q, b', off', cap', _, rfl, HMn.out, HQd.out, HJA.out⟩
                case measure => simp [intOf]; omega
              | false =>
                rw [hh] at gS zS
                have HMn : Hid (m ++ [(z : Int)] = addAll l (outS y c (k + 1))) := by show _ = _; rw [HST.out]; unfold gAdd; rw [hh]; simp
                have hil := (List.getElem?_eq_some_iff.1 HLx.out).1
                have hpl := (addAll_pre (outS y (c : Int) k) l).length_le
                rw [← HM.out] at hpl
                have HQn : Hid (q ++ [(z : Int)] = (m ++ [(z : Int)]).drop (i + 1)) := by show _ = _; rw [HQd.out, List.drop_append_of_le_length (by omega)]
                have hql : q.length ≤ 512 := by
                  have h1 := congrArg List.length HQd.out
                  have h2 := HJA.out.sn
                  rw [List.length_drop] at h1
                  omega
                obtain ⟨curq, hqb, _, _⟩ := HJA.out.que.cur
                have hSb : S ≠ b' := blk_neT HJA.out.seen hqb (by decide)
                have HQL := Lib.hid ((HJA.out.que.same (W' := (wA.setCell ⟨O, c, none⟩ (.slice (some ⟨g', 0, none⟩) (k + 1) capN)).setCell ⟨S, z, none⟩ (.bool true)) (Below.heap_setCell _ ⟨S, z, none⟩ _ b' hSb.symm)).kept ((Below.refl _ _).alloc (Nat.le_refl _) (.cells #[.int .i64 (z : Int)] 3)))
                have hlw := HJA.out.low.size
                have hba := HJA.out.que.lt
                simp only [World.size_setCell] at hlw hba
                clear hqb
                go_wp2_with (at_builtin; refine wpList_que 29 elemInt rfl (.tmp 73) (.tmp 75) rfl HQL.out rfl (z : Int) wA.heap.size 1 (by show Value.slice (some ⟨_, 0, none⟩) 1 1 = _; simp) ?hbl ?hn ?hbase ?_)
                case hbl => exact (Blk.new_at (w := (wA.setCell ⟨O, c, none⟩ (.slice (some ⟨g', 0, none⟩) (k + 1) capN)).setCell ⟨S, z, none⟩ (.bool true)) 3 #[.int .i64 (z : Int)] (by simp)).cell 0
                case hn => omega
                case hbase => simp; omega
                intro bN offN capM wB hqN hgB hatB
                have HJB := Lib.hid (HJA.out.mark hzN hh hqN (World.grownBy_trans_alloc hgB) (hatB.imp id (fun e => by rw [e]; simp)))
                clear hqN hgB hatB HQL
                go_wp2_with fail
                go_roundw
                case rel => exact ⟨k + 1, by omega, by go_num, _, _, _, bN, offN, capM, _, by rw [List.length_append]; rfl, HMn.out, HQn.out, HJB.out⟩
                case measure => simp [intOf]; omega
          · obtain rfl : n1 = k := by omega
            have hil := (List.getElem?_eq_some_iff.1 HLx.out).1
            have hpl := addAll_pre (outS y (c : Int) n1) l
            rw [← HM.out] at hpl
            have HPl := Lib.hid hpl
            have hbn := HBf.out.next (by rw [HNn.out, ← HL1.out]; exact nbS_in y) HLx.out
            have HBn : Hid (Bf (nbS y) (y0 y) (rng N) (i + 1) m) := by
              show Bf _ _ _ _ _
              rw [HM.out]
              unfold nbS at hbn ⊢
              rw [HL1.out] at hbn ⊢
              exact hbn
            have hqn : q.length + (i + 1) = m.length := by
              have h1 := congrArg List.length HQd.out
              have h2 := hpl.length_le
              rw [List.length_drop] at h1
              omega
            have hll2 := hpl.length_le
            have hsm2 := HJ.out.sn
            have hrl3 := congrArg List.length HRd.out
            rw [List.length_drop] at hrl3
            have hof := HOf.out
            have hsn0 := HSn.out
            have zOx : wo.cell? ⟨O, c, none⟩ = some v := by rw [HJ.out.out.cell, List.getElem?_toArray, List.getElem?_set_self (by rw [HJ.out.vl]; exact hcN)]
            clear hpl hbn hzx
            by_cases hn0 : n1 = 0
            · subst hn0
              have fO := HJ.out.out.frozen
              have lO := HJ.out.out.lt
              obtain ⟨_, hJE⟩ := HJ.out.put (W' := wo.alloc (.cells #[] 3)) (g' := wo.heap.size) (k' := 0) (cap' := 0) (World.grownBy_alloc _ _ _) (.inr (Nat.le_refl _)) (Own.new wo w.heap.size 3 1 0 #[] HJ.out.low.size rfl (by unfold maxLen; decide))
              rw [World.setCell_alloc_past (hn := lO)] at hJE
              have HGE := Lib.hid (hJE.leave HL1.out.symm HPl.out HLx.out)
              have hoe := offs_eq HGE.out.seen HGE.out.sl
              clear hJE
              go_wp2_with fail
              go_roundw
              case rel => exact ⟨_, sm', i + 1, m, q, b', off', cap', rfl, HQd.out, HGE.out, HBn.out⟩
              case measure =>
                simp only [qlen]
                rw [hoe, hof]
                simp only [List.length_cons, List.length_nil] at *
                omega
            · obtain ⟨AV, capV, rfl, _, _, _⟩ := own_form HJ.out.row
              obtain ⟨gV, rfl⟩ := own_some HJ.out.row (by omega)
              have HGE := Lib.hid (HJ.out.leave HL1.out.symm HPl.out HLx.out)
              have hoe := offs_eq HGE.out.seen HGE.out.sl
              go_wp2_with fail
              go_roundw
              case rel => exact ⟨_, sm', i + 1, m, q, b', off', cap', rfl, HQd.out, HGE.out, HBn.out⟩
              case measure =>
                simp only [qlen]
                rw [hoe, hof]
                simp only [List.length_cons, List.length_nil] at *
                omega
end Go.Proofs.YtphlojgmfkgeiaaGreatDoor
