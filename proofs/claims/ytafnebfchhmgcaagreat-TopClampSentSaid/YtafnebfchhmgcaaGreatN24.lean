/- Telegrams: Received of the program. -/
import Derived.Test.YtafnebfchhmgcaaGreatN26
namespace Go.Proofs.YtafnebfchhmgcaaGreat
open Go Go.RowKit Go.Sort Go.Shelf
set_option linter.unusedSimpArgs false
set_option linter.unusedVariables false
attribute [local go_sem] cell_if frozen_if grow_cell
attribute [local go_sem] Oper.semAt_some
theorem elemTel : Elem Tryz.prog 72 71 6 48 := elem_of Tryz.underlying72 (z := .agg #[.int .i64 0, .int .i64 0, .int .i64 0, .int .i64 0, .int .i64 0, .int .i64 0]) (by kernel_rfl) rfl (by decide)
/-- A fact that no tactic opens by itself. -/
structure PBox (p : Prop) : Prop where
  out : p
theorem Decode_yes (bs : List Int) (w : World) (h16 : bs.length = 16) (hb : ∀ b ∈ bs, 0 ≤ b ∧ b ≤ 255) (h : decE bs = 0) :
    Calls Tryz.prog 72 #[.agg (frC bs)] w fun e w' => e = .returned (.tuple #[.agg (telC (decS bs) (decC bs) (decV bs)), .int .i64 0]) ∧ Below w.heap.size w w' := by
  have := Decode_any bs w h16 hb
  rw [h, if_pos rfl] at this
  exact this
theorem Decode_bad (bs : List Int) (w : World) (h16 : bs.length = 16) (hb : ∀ b ∈ bs, 0 ≤ b ∧ b ≤ 255) (h : decE bs ≠ 0) :
    Calls Tryz.prog 72 #[.agg (frC bs)] w fun e w' => e = .returned (.tuple #[.agg (telC 0 0 (fun _ => 0)), .int .i64 (decE bs)]) ∧ Below w.heap.size w w' := by
  have := Decode_any bs w h16 hb
  rw [if_neg h] at this
  exact this
/-- Between two blocks. -/
structure ReI (w : World) (g : Nat) (fs : List (List Int)) (pre : List (Fin fs.length)) (W : World) : Prop where
  out : ∃ v, Blk W g 72 #[v] ∧ W.ownsRow (g + 1 + 1 + 1) 71 6 v (goodF fs pre).length (telL fs pre)
  bad : ∃ v, Blk W (g + 1) 73 #[v] ∧ W.ownsRow (g + 1 + 1 + 1) 3 1 v (badL fs pre).length ((badL fs pre).map (.int .i64))
  low : Below w.heap.size w W
  le : g + 1 + 1 + 1 ≤ W.heap.size
theorem ReI.grown {w : World} {g : Nat} {fs : List (List Int)} {pre : List (Fin fs.length)} {U V : World} {row : Option Nat} (hw : w.heap.size ≤ g) (hs : ReI w g fs pre U) (hg : U.grownBy V row) (hr : ∀ r, row = some r → g + 1 + 1 + 1 ≤ r ∧ ∀ t c, ¬ Blk U r t c) : ReI w g fs pre V := by
  obtain ⟨⟨v, h1, h2⟩, ⟨u, h3, h4⟩, h5, h6⟩ := hs
  exact ⟨⟨v, (hg.block _ h1.lt (fun e => (hr _ e.symm).2 _ _ h1)).trans h1, row_grown h2 hg fun r e c hb => (hr r e).2 _ _ hb⟩, ⟨u, (hg.block _ h3.lt (fun e => (hr _ e.symm).2 _ _ h3)).trans h3, row_grown h4 hg fun r e c hb => (hr r e).2 _ _ hb⟩, h5.grown hg (by omega) (fun j hj => by have := (hr j hj).1; omega), Nat.le_trans h6 hg.size⟩
/-- What is received. -/
def ReRes (w : World) (fs : List (List Int)) (e : Ending) (w' : World) : Prop := ∃ v1 v2, e = .returned (.tuple #[v1, v2, .int .i64 0]) ∧ w'.ownsRow w.heap.size 71 6 v1 (goodF fs (fTo fs.length fs.length)).length (telL fs (fTo fs.length fs.length)) ∧ w'.ownsRow w.heap.size 3 1 v2 (badL fs (fTo fs.length fs.length)).length ((badL fs (fTo fs.length fs.length)).map (.int .i64)) ∧ Below w.heap.size w w'
set_option maxRecDepth 100000 in
set_option maxHeartbeats 8000000 in
theorem Received_any (B : Nat) (A : Option Addr) (n c : Nat) (fs : List (List Int)) (w : World) (hF : Frames fs) (hm : fs.length ≤ 1024) (hr : Reads w B 1 A n (fs.flatten.map (.int .u8))) (hB : B ≤ w.heap.size) (hc : n ≤ c) :
    Calls Tryz.prog 22 #[.slice A n c] w (ReRes w fs) := by
  have hn : n = 16 * fs.length := by
    have h1 := hr.1
    rw [List.length_map, frames_len hF.len] at h1
    omega
  subst hn
  have q1 : ¬ ((16384 : Int) < 16 * (fs.length : Int)) := by omega
  have q2 : 16 * (fs.length : Int) % 16 = 0 := by omega
  have HRd := Lib.hid hr
  have HF := Lib.hid hF
  clear hr hF
  refine (callsIn_wide (n := 9)).1 ?_
  refine callsIn_of_wp_marks Tryz.func22 rfl trivial ?_ rfl
  refine wpIn_wide.2 ?_
  simp only [Tryz.ntmps22, List.size_toArray, List.length_cons, List.length_nil, Nat.reduceAdd, Nat.reduceSub, Array.replicate_succ, Array.replicate_zero, List.push_toArray, List.append_toArray, List.nil_append, List.cons_append]
  go_wp2_with fail
  refine (pwhen_any _ _ _).mono ?_
  rw [show whenE false 26 = 0 from rfl]
  rintro e w1 ⟨rfl, rfl⟩
  go_wp2_with fail
  refine (pwhen_any _ _ _).mono ?_
  rw [show whenE false 28 = 0 from rfl]
  rintro e w1 ⟨rfl, rfl⟩
  go_wp2_with fail
  have hlit : Reads (w.alloc (.cells #[.int .i64 0, .int .i64 0] 31)) (w.heap.size + 1) 1 (some ⟨w.heap.size, 0, none⟩) 2 (([0, 0] : List Int).map (.int .i64)) := by
    simpa using Reads.new (size := 1) w (([0, 0] : List Int).map (.int .i64)).toArray 31 2 rfl
  refine (pfirst_any _ _ 2 2 [0, 0] _ hlit (by unfold maxLen; omega)).mono ?_
  rw [show firstE [0, 0] = 0 from rfl]
  rintro e w1 ⟨rfl, hw1⟩
  have hbx : Below w.heap.size w w1 := by rw [← hw1]; exact bl_
  have hs1 := hbx.size
  clear hlit hw1
  go_wp2_with fail
  refine (blocks_any _ _ _ _).mono ?_
  rintro e wb ⟨rfl, hwb⟩
  have hbw : Below w.heap.size w wb := by rw [← hwb]; exact bl_
  have b1 : Blk wb w1.heap.size 72 #[.slice none 0 0] := by rw [← hwb]; exact bk_
  have b2 : Blk wb (w1.heap.size + 1) 73 #[.slice none 0 0] := by rw [← hwb]; exact bk_
  have b3 : Blk wb (w1.heap.size + 1 + 1) 52 #[.slice A (16 * fs.length) c] := by rw [← hwb]; exact bk_
  have hsb : wb.heap.size = w1.heap.size + 1 + 1 + 1 := by rw [← hwb]; simp
  clear hwb hbx
  simp only [World.size_alloc]
  go_wp2_with fail
  generalize w1.heap.size = g at *
  have HSt := Lib.hid (bl_stops fs HF.out 8 (g + 1 + 1) w.heap.size c A wb (by omega) hbw.size hm hc b3 ((HRd.out.below (hbw.mono hB)).more hB))
  refine (wpIn_wide (n := 9)).1 ?_
  change Code.wpIn _ _ _ (Code.rangeFunc _ _ _ _) _ ?act _
  refine wpIn_rangeFunc_ownH rfl (by omega) (gf := 122) (lb := #[.pointer (some ⟨g + 1 + 1, 0, none⟩)]) rfl trivial (enters_of Tryz.func122 (by kernel_rfl) rfl)
    HSt.out KpB.t (KpB.b hbw.size (by omega)) (Below.refl _ _) (fun _ => rfl)
    (fun pre W => ReI w g fs pre W)
    (fun _ _ _ => False)
    ?own (fun _ _ _ _ _ hs _ _ => hs) ?start
    (fun x a' W => ∃ q, a' = { (?act : Act) with tmps := (((((?act : Act).tmps.setIfInBounds 28 (.int .i64 (x.1 : Int))).setIfInBounds 29 (.agg (frC fs[x]))).setIfInBounds 8 (.int .i64 (x.1 : Int))).setIfInBounds 9 (.pointer (some ⟨q, 0, none⟩))) } ∧ wb.heap.size ≤ q ∧ Blk W q 66 (frC fs[x])) ?ownA ?assign ?body ?done ?stop
  case own =>
    exact fun pre U V row hs hg hr => hs.grown (by omega) hg fun r e => ⟨by have := (hr r e).1; omega, no_blk (hr r e).2⟩
  case start => exact ⟨⟨.slice none 0 0, b1, World.ownsRow_nil _ _ _ _⟩, ⟨.slice none 0 0, b2, World.ownsRow_nil _ _ _ _⟩, hbw, by omega⟩
  case ownA =>
    rintro x a' _ U V row ⟨q, e, hq, hb⟩ hg hr
    refine ⟨q, e, hq, (hg.block q hb.lt (fun e => ?_)).trans hb⟩
    obtain ⟨_, o, ho, hc⟩ := hr q e.symm
    rw [show U.heap[q]? = _ from hb] at ho
    cases ho
    cases hc
  case stop =>
    rintro D c pre W _ _ hf _
    exact hf.elim
  case assign =>
    as_aux_lemma =>
      rintro l' pre z W K hI hK
      have hle := hI.le
      have hlo := hI.low.size
      obtain ⟨x0, x1, x2, x3, x4, x5, x6, x7, x8, x9, x10, x11, x12, x13, x14, x15, hx⟩ := list16 (HF.out.len _ (List.getElem_mem z.2))
      have hfc : frC fs[z] = #[.int .u8 x0, .int .u8 x1, .int .u8 x2, .int .u8 x3, .int .u8 x4, .int .u8 x5, .int .u8 x6, .int .u8 x7, .int .u8 x8, .int .u8 x9, .int .u8 x10, .int .u8 x11, .int .u8 x12, .int .u8 x13, .int .u8 x14, .int .u8 x15] := by
        show frC fs[z.1] = _
        rw [hx]; rfl
      dsimp only [blV]
      rw [hfc]
      gi_wp2
      have hIn : W.grownBy (W.alloc (.cells #[.int .u8 x0, .int .u8 x1, .int .u8 x2, .int .u8 x3, .int .u8 x4, .int .u8 x5, .int .u8 x6, .int .u8 x7, .int .u8 x8, .int .u8 x9, .int .u8 x10, .int .u8 x11, .int .u8 x12, .int .u8 x13, .int .u8 x14, .int .u8 x15] 66)) none := World.grownBy_alloc W _ none
      refine hK _ _ (KeepsFrom.of_grownBy hIn (fun _ e => by cases e)) ⟨bl_, Below.heap_alloc _ _ _ (by omega)⟩ (hI.grown (by omega) hIn (fun _ e => by cases e)) ⟨W.heap.size, by rw [hfc]; rfl, by omega, by rw [hfc]; exact Blk.new _ _ _⟩
  case body =>
    rintro l' pre z a' W hl ⟨r, hr⟩ hI ⟨q, rfl, hq, hbq⟩ hlp
    obtain ⟨⟨v, ho, hrow⟩, ⟨u, hob, hrowb⟩, hlow, hle⟩ := hI
    have h16 := HF.out.len _ (List.getElem_mem z.2)
    have hby := HF.out.bytes _ (List.getElem_mem z.2)
    have hgl := good_le fs pre
    have hbl := bad_le fs pre
    obtain ⟨x0, x1, x2, x3, x4, x5, x6, x7, x8, x9, x10, x11, x12, x13, x14, x15, hx⟩ := list16 h16
    have hfc : frC fs[z] = #[.int .u8 x0, .int .u8 x1, .int .u8 x2, .int .u8 x3, .int .u8 x4, .int .u8 x5, .int .u8 x6, .int .u8 x7, .int .u8 x8, .int .u8 x9, .int .u8 x10, .int .u8 x11, .int .u8 x12, .int .u8 x13, .int .u8 x14, .int .u8 x15] := by
      show frC fs[z.1] = _
      rw [hx]; rfl
    have HO := Lib.hid ho
    have HRw := Lib.hid hrow
    have HOb := Lib.hid hob
    have HRb := Lib.hid hrowb
    have HLow := Lib.hid hlow
    have hsw := hlow.size
    by_cases h0 : decE fs[z] = 0
    · skip
      have HD := Decode_yes fs[z] W h16 hby h0
      obtain ⟨e1, e2, e3⟩ := good_yes pre h0
      rw [hfc] at HD hbq
      unfold telC at HD e2
      generalize decS fs[z] = sv at *
      generalize decC fs[z] = cv at *
      generalize decV fs[z] = Vf at *
      have HDh := Lib.hid HD
      have E1 := Lib.hid e1
      have E2 := Lib.hid e2
      have E3 := Lib.hid e3
      have cQ := hbq.cell
      have lQ := hbq.lt
      clear hr ho hrow hob hrowb hlow b1 b2 b3 hbw HSt HD e1 e2 e3 hx h16 hby h0
      rw [hfc]
      clear hfc
      simp only [List.setIfInBounds_toArray, List.set_cons_zero, List.set_cons_succ]
      generalize Vf 0 = V0 at *
      generalize Vf 1 = V1 at *
      generalize Vf 2 = V2 at *
      generalize Vf 3 = V3 at *
      generalize goodF fs pre = Gp at *
      generalize telL fs pre = Tp at *
      obtain ⟨QQ, hQQ, hQn⟩ : ∃ QQ : Exit → Act → World → Prop, (∀ e a W', QQ e a W' → ownPostG wb.heap.size (KpB w.heap.size (g + 1 + 1)) (fun pre W => ReI w g fs pre W) (fun _ _ _ => False) (pre ++ [z]) W e a W') ∧ (∀ a W', (KeepsFrom wb.heap.size W W' ∧ KpB w.heap.size (g + 1 + 1) W W' ∧ ReI w g fs (pre ++ [z]) W') → QQ .normal a W') := ⟨_, fun _ _ _ h => h, fun _ _ h => h⟩
      refine Code.wpIn_mono hQQ ?_
      have HQn := PBox.mk hQn
      clear hQQ hQn
      gi_wp2
      refine ⟨trivial, ?_⟩
      refine (CallsIn.inRound l' (callsIn_wide.2 HDh.out)).mono ?_
      rintro e w1 ⟨rfl, hb1⟩
      have hs1 := hb1.size
      have hb12 : Below W.heap.size W (w1.alloc (.cells #[.int .i64 sv, .int .i64 cv, .int .i64 V0, .int .i64 V1, .int .i64 V2, .int .i64 V3] 71)) := hb1.trans (((Below.refl _ _).alloc (Nat.le_refl _) _).mono hs1)
      have HB12 := Lib.hid hb12
      have HO1 := Lib.hid (HO.out.kept hb12)
      have HRw1 := Lib.hid (own_kept HRw.out hb12)
      have HOb1 := Lib.hid (HOb.out.kept hb12)
      have HRb1 := Lib.hid (own_kept HRb.out hb12)
      have cO := HO1.out.cell 0
      simp at cO
      have hlO := HO1.out.lt
      simp at hlO
      clear HDh cQ lQ hb12
      obtain ⟨wt, hwt⟩ : ∃ wt, w1.alloc (.cells #[.int .i64 sv, .int .i64 cv, .int .i64 V0, .int .i64 V1, .int .i64 V2, .int .i64 V3] 71) = wt := ⟨_, rfl⟩
      have hst : wt.heap.size = w1.heap.size + 1 := by rw [← hwt]; simp
      have BF : PBox (∀ (A2 : Option Addr) (cap2 : Nat) (w2 : World), w2.ownsRow (g + 1 + 1 + 1) 71 6 (.slice A2 (Gp.length + 1) cap2) (Gp.length + 1) (Tp ++ (#[.int .i64 sv, .int .i64 cv, .int .i64 V0, .int .i64 V1, .int .i64 V2, .int .i64 V3] : Array Value).toList) → Below (g + 1 + 1 + 1) wt w2 → (∀ k t' c, t' ≠ 71 → Blk wt k t' c → Blk w2 k t' c) → KeepsOthers wt w2 →
          KeepsFrom wb.heap.size W (w2.setCell ⟨g, 0, none⟩ (.slice A2 (Gp.length + 1) cap2)) ∧ KpB w.heap.size (g + 1 + 1) W (w2.setCell ⟨g, 0, none⟩ (.slice A2 (Gp.length + 1) cap2)) ∧ ReI w g fs (pre ++ [z]) (w2.setCell ⟨g, 0, none⟩ (.slice A2 (Gp.length + 1) cap2))) := ⟨by
        rw [hwt] at HB12 HO1 HOb1 HRb1
        intro A2 cap2 w2 hrow2 hb2 hk2 ho2
        have HO2 := hk2 _ _ _ (by decide) HO1.out
        have HOb2 := hk2 _ _ _ (by decide) HOb1.out
        have HRb2 := row_same HRb1.out fun j d hj => hk2 _ _ _ (by decide) hj
        have hs2 := hb2.size
        have hs12 := HB12.out.size
        have hB2 : Below (g + 1 + 1) W w2 := (HB12.out.mono (by omega)).trans (hb2.mono (by omega))
        refine ⟨((KeepsFrom.of_grownBy (grown_of_below HB12.out) (fun _ e => by cases e)).trans (ho2.from _)).trans ((KeepsOthers.setCell _ _ _).from _), ⟨(hB2.mono (by omega)).setCell (p := ⟨g, 0, none⟩) (by show w.heap.size ≤ g; omega) _, ?_⟩, ⟨⟨_, HO2.set_ 0 _, ?_⟩, ⟨_, HOb2.far (p := ⟨g, 0, none⟩) (show g + 1 ≠ g by omega) _, ?_⟩, (HLow.out.trans (hB2.mono (by omega))).setCell (p := ⟨g, 0, none⟩) (by show w.heap.size ≤ g; omega) _, ?_⟩⟩
        · rw [Below.heap_setCell _ _ _ _ (show g + 1 + 1 ≠ g by omega)]
          exact (hb2.block _ (by omega)).trans (HB12.out.block _ (by omega))
        · rw [E1.out, E2.out]
          exact row_set hrow2 HO2 (by decide)
        · rw [E3.out]
          exact row_set HRb2 HO2 (by decide)
        · have e5 : ∀ (V : World) (p : Addr) (u : Value), (V.setCell p u).heap.size = V.heap.size := fun V p u => by simp [World.setCell]
          rw [e5]
          omega⟩
      have HWt := Lib.hid hwt
      clear hwt
      have BR := PBox.mk HRw1.out
      have BO := PBox.mk HO1.out
      clear HO1 HOb1 HRb1 HB12 HLow E1 E2 E3 HRw1 HO HOb HRw HRb hbq HRd HF hst
      gi_wp2_with (gi_at_builtin; refine wpListIn_appV 72 71 6 48 elemTel rfl (.tmp 41) (.tmp 43) rfl (g + 1 + 1 + 1) v Gp.length _ rfl BR.out 1 (by show Value.slice (some ⟨w1.heap.size + 1, 0, none⟩) 1 1 = _; simp) rfl ?h1 (by decide) ?h3 ?h4 ?h5 ?_; (case h1 => intro u hu; simp at hu; rcases hu with rfl | rfl | rfl | rfl | rfl | rfl <;> rfl); (case h3 => unfold maxLen; omega); (case h4 => omega); (case h5 => simp; omega); intro v2 w2 hrow2 hg2 hb2 hk2 ho2; obtain ⟨A2, cap2, e2, hl1, hl2, hl3⟩ := own_form hrow2; clear hl1 hl2 hl3; subst e2; have HO2 := hk2 _ _ _ (by decide) BO.out; have c2 := HO2.cell 0; have f2 := HO2.frozen 0; have l2 := HO2.lt; simp at c2; have HR2 := PBox.mk hrow2; have HK2 := PBox.mk hk2; have HB2 := PBox.mk hb2; have HQ2 := PBox.mk ho2; clear hrow2 hb2 hk2 ho2 hg2 HO2; gi_step; go_simp; rename_i KK hKK; refine hKK _ _ ?_; clear hKK KK; gi_step; exact HQn.out _ _ (BF.out A2 cap2 w2 HR2.out (HWt.out ▸ HB2.out) (HWt.out ▸ HK2.out) (HWt.out ▸ HQ2.out)))
    · skip
      as_aux_lemma =>
        have HD := Decode_bad fs[z] W h16 hby h0
        obtain ⟨e1, e2, e3⟩ := good_no pre h0
        have hne : (decE fs[z] != 0) = true := by simpa using h0
        rw [hfc] at HD hbq
        unfold telC at HD
        generalize decE fs[z] = er at *
        have HDh := Lib.hid HD
        have E1 := Lib.hid e1
        have E2 := Lib.hid e2
        have E3 := Lib.hid e3
        have cQ := hbq.cell
        have lQ := hbq.lt
        clear hr ho hrow hob hrowb hlow b1 b2 b3 hbw HSt HD e1 e2 e3 hx h16 hby h0
        rw [hfc]
        clear hfc
        simp only [List.setIfInBounds_toArray, List.set_cons_zero, List.set_cons_succ]
        generalize badL fs pre = Bp at *
        gi_wp2
        refine ⟨trivial, ?_⟩
        refine (CallsIn.inRound l' (callsIn_wide.2 HDh.out)).mono ?_
        rintro e w1 ⟨rfl, hb1⟩
        have hs1 := hb1.size
        have hb12 : Below W.heap.size W (w1.alloc (.cells #[.int .i64 0, .int .i64 0, .int .i64 0, .int .i64 0, .int .i64 0, .int .i64 0] 71)) := hb1.trans (((Below.refl _ _).alloc (Nat.le_refl _) _).mono hs1)
        have HB12 := Lib.hid hb12
        have HO1 := Lib.hid (HO.out.kept hb12)
        have HRw1 := Lib.hid (own_kept HRw.out hb12)
        have HOb1 := Lib.hid (HOb.out.kept hb12)
        have HRb1 := Lib.hid (own_kept HRb.out hb12)
        have cO := HOb1.out.cell 0
        simp at cO
        have hlO := HOb1.out.lt
        simp at hlO
        clear HDh cQ lQ hb12
        gi_wp2_with (gi_at_builtin; refine wpListIn_appV 73 3 1 8 elemInt rfl (.tmp 37) (.tmp 39) rfl (g + 1 + 1 + 1) u Bp.length _ rfl HRb1.out 1 (by show Value.slice (some ⟨w1.heap.size + 1, 0, none⟩) 1 1 = _; simp) rfl ?h1 (by decide) ?h3 ?h4 ?h5 ?_; (case h1 => intro u hu; simp at hu; subst hu; rfl); (case h3 => unfold maxLen; omega); (case h4 => omega); (case h5 => simp; omega); intro v2 w2 hrow2 hg2 hb2 hk2 ho2; obtain ⟨A2, cap2, rfl, _, _, _⟩ := own_form hrow2; have HO2 := hk2 _ _ _ (by decide) HOb1.out; have c2 := HO2.cell 0; have f2 := HO2.frozen 0; have l2 := HO2.lt; simp at c2)
        have HOo2 := hk2 _ _ _ (by decide) HO1.out
        have HRo2 := row_same HRw1.out fun j d hj => hk2 _ _ _ (by decide) hj
        have hs2 := hb2.size
        simp at hs2
        have hB2 : Below (g + 1 + 1) W w2 := (HB12.out.mono (by omega)).trans (hb2.mono (by omega))
        refine ⟨((KeepsFrom.of_grownBy (grown_of_below HB12.out) (fun _ e => by cases e)).trans (ho2.from _)).trans ((KeepsOthers.setCell _ _ _).from _), ⟨(hB2.mono (by omega)).setCell (p := ⟨g + 1, 0, none⟩) (by show w.heap.size ≤ g + 1; omega) _, ?_⟩, ⟨⟨_, HOo2.far (p := ⟨g + 1, 0, none⟩) (show g ≠ g + 1 by omega) _, ?_⟩, ⟨_, HO2.set_ 0 _, ?_⟩, (HLow.out.trans (hB2.mono (by omega))).setCell (p := ⟨g + 1, 0, none⟩) (by show w.heap.size ≤ g + 1; omega) _, ?_⟩⟩
        · rw [Below.heap_setCell _ _ _ _ (show g + 1 + 1 ≠ g + 1 by omega)]
          exact (hb2.block _ (by omega)).trans (HB12.out.block _ (by omega))
        · rw [E1.out, E2.out]
          exact row_set HRo2 HO2 (by decide)
        · rw [E3.out, List.length_append, List.map_append]
          exact row_set hrow2 HO2 (by decide)
        · have e5 : ∀ (V : World) (p : Addr) (u : Value), (V.setCell p u).heap.size = V.heap.size := fun V p u => by simp [World.setCell]
          rw [e5]
          omega
  case done =>
    as_aux_lemma =>
      rintro D ys W hD rfl ⟨⟨v, ho, hrow⟩, ⟨u, hob, hrowb⟩, hlow, hle⟩ hK
      have cO := ho.cell 0
      have cB := hob.cell 0
      have lO := ho.lt
      have lB := hob.lt
      simp at cO cB
      have HK := Lib.hid hK
      have HD := Lib.hid hD
      have HLow := Lib.hid hlow
      have HRw := Lib.hid hrow
      have HRb := Lib.hid hrowb
      clear hK hD hlow hrow hrowb b1 b2 b3 HSt
      go_wp2_with fail
      (refine wp_region_calm [] [0, 1, 2, 3, 4] 0 (by kernel_rfl) rfl (by kernel_rfl) (by kernel_rfl) (by kernel_rfl) ?_; simp only [pickB, List.filterMap_cons, List.filterMap_nil, List.getElem?_toArray, List.getElem?_cons_zero, List.getElem?_cons_succ]; (repeat (first | ((first | (with_reducible refine quietL_plain rfl (fun K hK => ?_)) | (with_reducible refine quietL_want (by with_unfolding_all rfl) (fun K hK => ?_))); (apply Exists.intro; refine ⟨fun wx hx => ?_, ?_⟩; (· (have hcx := ifs_ex hx); simp [go_sem, *, ↓IntWalk.iteOmega] <;> (first | rfl | exact ⟨rfl, rfl⟩ | fail)); (simp only [Act.put, List.setIfInBounds_toArray, List.set_cons_zero, List.set_cons_succ]; refine hK _ ?_; clear hK K))) | ((with_reducible refine quietL_skip (by with_unfolding_all rfl) ?_); simp only [Act.put, List.setIfInBounds_toArray, List.set_cons_zero, List.set_cons_succ]))); refine quietL_nil ?_)
      refine anyB_end (by kernel_rfl) ?_
      intro w5 hb5
      simp only [Calm]
      have hs5 := hb5.size
      have HK5 := Lib.hid ((hb5.block D (Array.getElem?_eq_some_iff.1 HK.out).1).trans HK.out)
      have HRw5 := Lib.hid (own_kept HRw.out hb5)
      have HRb5 := Lib.hid (own_kept HRb.out hb5)
      have HLow5 := Lib.hid (HLow.out.trans (hb5.mono HLow.out.size))
      go_wp2_with fail
      refine leaves_marks wb.heap.size [D] w5 (by simp) (fun E hE => by simp at hE; subst hE; exact HK5.out) (fun E hE => by simp at hE; subst hE; have := HD.out; omega) fun w' hw' hkk hs => ?_
      have hrk : ∀ {e size n : Nat} {x : Value} {xs : List Value}, w5.ownsRow (g + 1 + 1 + 1) e size x n xs → w'.ownsRow w.heap.size e size x n xs := fun h => row_base (row_kept h fun k c hb => hkk k fun hk => by
        rw [List.mem_singleton.1 hk] at hb
        have hb' := (show w5.heap[D]? = _ from hb).symm.trans HK5.out
        cases hb') (by omega)
      refine ⟨_, results_tmp3 rfl _ _ _, v, u, rfl, hrk HRw5.out, hrk HRb5.out, HLow5.out.trans (hw'.mono (by omega))⟩
end Go.Proofs.YtafnebfchhmgcaaGreat
