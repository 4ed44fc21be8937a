/- Telegrams: Decode of the program. -/
import Derived.Test.YtafnebfchhmgcaaGreatN21
import Derived.Test.YtafnebfchhmgcaaGreatL1
namespace Go.Proofs.YtafnebfchhmgcaaGreat
open Go Go.RowKit Go.Sort Go.Shelf
set_option linter.unusedSimpArgs false
set_option linter.unusedVariables false
attribute [local go_sem] cell_if frozen_if grow_cell
theorem quiet_bl {P : Program} {o : Oper} {a : Act} {w : World} {G : World → Prop} (t : TypeId) (parts : Array (Nat × Operand)) (vs : List (Nat × Value)) (cells : Array Value) (ho : o.op = .build t parts) (hx : (parts.toList.map fun (i, x) => (i, a.eval x)) = vs) (hr : P.built t vs = some cells) : Oper.quietUpon P G w (.agg cells) ((execOp a.eval o).run P w) := by
  have hx' : (parts.map fun (i, x) => (i, a.eval x)).toList = vs := by rw [Array.toList_map]; exact hx
  rw [← hx'] at hr
  unfold execOp
  simp only [ho, Sem.run_bind, run_build w t _ cells hr, Result.andThen_ok]
  exact ⟨rfl, rfl⟩
/-- A frame's cells. -/
def frC (bs : List Int) : Array Value := (bs.map (Value.int .u8)).toArray
/-- The error of a frame. -/
def decE (bs : List Int) : Int := firstE [whenE (bs.headD 0 != 177) 1, whenE (numB (bs.drop 12) != cks (bs.take 12)) 27]
/-- A value of a frame. -/
def decV (bs : List Int) (i : Nat) : Int := let n := numB ((bs.drop (4 + 2 * i)).take 2); if 32768 ≤ n then n - 65536 else n
def decS (bs : List Int) : Int := bs[1]?.getD 0
def decC (bs : List Int) : Int := numB ((bs.drop 2).take 2)
theorem numB_two {l : List Int} (h : l.length = 2) (hb : ∀ b ∈ l, 0 ≤ b ∧ b ≤ 255) : 0 ≤ numB l ∧ numB l ≤ 65535 := by
  match l, h with
  | [x, y], _ =>
    have h1 := hb x (by simp)
    have h2 := hb y (by simp)
    show 0 ≤ ((0 * 256 + x) * 256 + y) ∧ ((0 * 256 + x) * 256 + y) ≤ 65535
    omega
theorem fr_part (bs : List Int) (i n : Nat) {W : World} {g : Nat} (hB : Blk W g 66 (frC bs)) (hn : i + n ≤ bs.length) : Reads W (g + 1) 1 (some ⟨g, i, none⟩) n (((bs.drop i).take n).map (.int .u8)) := by
  refine Reads.blk_at (pre := (bs.take i).map (.int .u8)) (post := (bs.drop (i + n)).map (.int .u8)) hB ?_ (by simp; omega) (by simp; omega)
  rw [← List.map_append, ← List.map_append]
  show bs.map _ = _
  congr 1
  rw [← List.drop_drop, List.take_append_drop, List.take_append_drop]
/-- The values up to some. -/
def tvV (bs : List Int) (k i : Nat) : Int := if i < k then decV bs i else 0
/-- A telegram's cells. -/
def telC (s c : Int) (V : Nat → Int) : Array Value := #[.int .i64 s, .int .i64 c, .int .i64 (V 0), .int .i64 (V 1), .int .i64 (V 2), .int .i64 (V 3)]
theorem tel_set (s c : Int) (V V' : Nat → Int) {k : Nat} (hk : k < 4) (h : V' k = V' k) (hV : ∀ i, i < 4 → i ≠ k → V' i = V i) : (telC s c V).setIfInBounds (2 + k) (.int .i64 (V' k)) = telC s c V' := by
  unfold telC
  rcases (show k = 0 ∨ k = 1 ∨ k = 2 ∨ k = 3 from by omega) with rfl | rfl | rfl | rfl
  · rw [hV 1 (by omega) (by omega), hV 2 (by omega) (by omega), hV 3 (by omega) (by omega)]; rfl
  · rw [hV 0 (by omega) (by omega), hV 2 (by omega) (by omega), hV 3 (by omega) (by omega)]; rfl
  · rw [hV 0 (by omega) (by omega), hV 1 (by omega) (by omega), hV 3 (by omega) (by omega)]; rfl
  · rw [hV 0 (by omega) (by omega), hV 1 (by omega) (by omega), hV 2 (by omega) (by omega)]; rfl
section
variable {W : World} {b B : Nat} {t : TypeId} {w : World} {x0 x1 x2 x3 x4 x5 v0 v1 v2 v3 v4 v5 : Value}
theorem put6_blk (h : Blk W b t #[x0, x1, x2, x3, x4, x5]) : Blk ((((((W.setCell ⟨b, 0, none⟩ v0).setCell ⟨b, 1, none⟩ v1).setCell ⟨b, 2, none⟩ v2).setCell ⟨b, 3, none⟩ v3).setCell ⟨b, 4, none⟩ v4).setCell ⟨b, 5, none⟩ v5) b t #[v0, v1, v2, v3, v4, v5] :=
  (((((h.set_ 0 v0).set_ 1 v1).set_ 2 v2).set_ 3 v3).set_ 4 v4).set_ 5 v5
theorem put6_low (h : Below B w W) (hb : B ≤ b) : Below B w ((((((W.setCell ⟨b, 0, none⟩ v0).setCell ⟨b, 1, none⟩ v1).setCell ⟨b, 2, none⟩ v2).setCell ⟨b, 3, none⟩ v3).setCell ⟨b, 4, none⟩ v4).setCell ⟨b, 5, none⟩ v5) :=
  (((((h.setCell (p := ⟨b, 0, none⟩) hb v0).setCell (p := ⟨b, 1, none⟩) hb v1).setCell (p := ⟨b, 2, none⟩) hb v2).setCell (p := ⟨b, 3, none⟩) hb v3).setCell (p := ⟨b, 4, none⟩) hb v4).setCell (p := ⟨b, 5, none⟩) hb v5
theorem put6_size : ((((((W.setCell ⟨b, 0, none⟩ v0).setCell ⟨b, 1, none⟩ v1).setCell ⟨b, 2, none⟩ v2).setCell ⟨b, 3, none⟩ v3).setCell ⟨b, 4, none⟩ v4).setCell ⟨b, 5, none⟩ v5).heap.size = W.heap.size := by simp [World.setCell]
theorem put6_far {g : Nat} {T : TypeId} {C : Array Value} (h : Blk W g T C) (hne : g ≠ b) : Blk ((((((W.setCell ⟨b, 0, none⟩ v0).setCell ⟨b, 1, none⟩ v1).setCell ⟨b, 2, none⟩ v2).setCell ⟨b, 3, none⟩ v3).setCell ⟨b, 4, none⟩ v4).setCell ⟨b, 5, none⟩ v5) g T C :=
  (((((h.far (p := ⟨b, 0, none⟩) hne v0).far (p := ⟨b, 1, none⟩) hne v1).far (p := ⟨b, 2, none⟩) hne v2).far (p := ⟨b, 3, none⟩) hne v3).far (p := ⟨b, 4, none⟩) hne v4).far (p := ⟨b, 5, none⟩) hne v5
end
/-- Between two values. -/
structure DcI (w : World) (C : Array Value) (bs : List Int) (s c : Int) (g k : Nat) (W : World) : Prop where
  arr : Blk W w.heap.size 66 C
  out : Blk W (w.heap.size + 1) 71 (telC 0 0 fun _ => 0)
  tel : Blk W g 71 (telC s c (tvV bs k))
  low : Below w.heap.size w W
  g2 : w.heap.size + 1 + 1 ≤ g
theorem DcI.kept {w : World} {C : Array Value} {bs : List Int} {s c : Int} {g k : Nat} {W W' : World} (h : DcI w C bs s c g k W) (hb : Below W.heap.size W W') : DcI w C bs s c g k W' :=
  ⟨h.arr.kept hb, h.out.kept hb, h.tel.kept hb, h.low.trans (hb.mono h.low.size), h.g2⟩
theorem DcI.next {w : World} {C : Array Value} {bs : List Int} {s c : Int} {g k : Nat} {W : World} (h : DcI w C bs s c g k W) (hk : k < 4) : DcI w C bs s c g (k + 1) (W.setCell ⟨g, 2 + k, none⟩ (.int .i64 (decV bs k))) := by
  have hg := h.g2
  refine ⟨h.arr.far (p := ⟨g, 2 + k, none⟩) (show w.heap.size ≠ g by omega) _, h.out.far (p := ⟨g, 2 + k, none⟩) (show w.heap.size + 1 ≠ g by omega) _, ?_, h.low.setCell (p := ⟨g, 2 + k, none⟩) (show w.heap.size ≤ g by omega) _, hg⟩
  have h1 := h.tel.set_ (2 + k) (.int .i64 (decV bs k))
  have e : tvV bs (k + 1) k = decV bs k := if_pos (Nat.lt_succ_self k)
  rw [← e, tel_set s c (tvV bs k) (tvV bs (k + 1)) hk rfl (fun i hi hne => by
    unfold tvV
    by_cases h2 : i < k
    · rw [if_pos h2, if_pos (by omega)]
    · rw [if_neg h2, if_neg (by omega)])] at h1
  rw [e] at h1
  exact h1
theorem DcI.val {w : World} {C : Array Value} {bs : List Int} {s c : Int} {g k : Nat} {W : World} (h : DcI w C bs s c g k W) (hk : k < 4) : ∃ u, W.cell? ⟨g, 2 + k, none⟩ = some u := by
  rcases (show k = 0 ∨ k = 1 ∨ k = 2 ∨ k = 3 from by omega) with rfl | rfl | rfl | rfl
  all_goals exact ⟨_, (h.tel.cell _).trans rfl⟩
set_option maxRecDepth 100000 in
set_option maxHeartbeats 4000000 in
theorem Decode_any (bs : List Int) (w : World) (h16 : bs.length = 16) (hb : ∀ b ∈ bs, 0 ≤ b ∧ b ≤ 255) :
    Calls Tryz.prog 72 #[.agg (frC bs)] w fun e w' => e = .returned (.tuple #[.agg (if decE bs = 0 then telC (decS bs) (decC bs) (decV bs) else telC 0 0 (fun _ => 0)), .int .i64 (decE bs)]) ∧ Below w.heap.size w w' := by
  obtain ⟨C, hC⟩ : ∃ C, frC bs = C := ⟨_, rfl⟩
  have hsz : C.size = 16 := by rw [← hC]; unfold frC; simp [h16]
  have h0 : C[0]? = some (.int .u8 (bs.headD 0)) := by
    rw [← hC]
    match bs, h16 with
    | x :: r, _ => rfl
  have h1 : C[1]? = some (.int .u8 (decS bs)) := by
    rw [← hC]
    match bs, h16 with
    | x :: y :: r, _ => rfl
  have hsb : 0 ≤ decS bs ∧ decS bs ≤ 255 := by
    unfold decS
    match bs, h16 with
    | x :: y :: r, _ => exact hb y (by simp)
  have hbt : ∀ i n, ∀ b ∈ ((bs.drop i).take n), 0 ≤ b ∧ b ≤ 255 := fun i n b h => hb b (List.mem_of_mem_drop (List.mem_of_mem_take h))
  have Hpart := Lib.hid (fun (W : World) (g i n : Nat) (hB : Blk W g 66 C) (hn : i + n ≤ 16) => fr_part bs i n (by rw [hC]; exact hB) (by rw [h16]; exact hn))
  have HNum := Lib.hid (fun (W : World) (g i n cp : Nat) (hB : Blk W g 66 C) (hn : i + n ≤ 16) (h6 : n ≤ 6) => number_any (g + 1) (some ⟨g, i, none⟩) n cp _ W (Hpart.out W g i n hB hn) h6 (hbt i n))
  have HChk := Lib.hid (fun (W : World) (g : Nat) (hB : Blk W g 66 C) => checksum_any (g + 1) (some ⟨g, 0, none⟩) 12 16 _ W (Hpart.out W g 0 12 hB (by omega)) (by unfold maxLen; decide) (hbt 0 12))
  have hE : decE bs = firstE [whenE (bs.headD 0 != 177) 1, whenE (numB ((bs.drop 12).take 4) != cks ((bs.drop 0).take 12)) 27] := by
    unfold decE
    rw [List.take_of_length_le (i := 4) (by rw [List.length_drop, h16]; decide), List.drop_zero]
  rw [hC]
  have HC := Lib.hid hC
  have HN12 := fun (W : World) (g : Nat) (hB : Blk W g 66 C) => HNum.out W g 12 4 4 hB (by decide) (by decide)
  have HK12 := HChk.out
  obtain ⟨b0, hb0⟩ : ∃ b0, bs.headD 0 = b0 := ⟨_, rfl⟩
  obtain ⟨nn, hnn⟩ : ∃ nn, numB ((bs.drop 12).take 4) = nn := ⟨_, rfl⟩
  obtain ⟨kk, hkk⟩ : ∃ kk, cks ((bs.drop 0).take 12) = kk := ⟨_, rfl⟩
  rw [hb0, hnn, hkk] at hE
  rw [hb0] at h0
  rw [hnn] at HN12
  rw [hkk] at HK12
  have HN := Lib.hid HN12
  have HK := Lib.hid HK12
  clear hC hb0 hnn hkk HN12 HK12 HChk
  obtain ⟨E, hEE⟩ : ∃ E, decE bs = E := ⟨_, rfl⟩
  rw [hEE] at hE
  rw [hEE]
  have HE := Lib.hid hE
  clear hE hEE
  obtain ⟨RV, hRV⟩ : ∃ RV, (if E = 0 then telC (decS bs) (decC bs) (decV bs) else telC 0 0 (fun _ => 0)) = RV := ⟨_, rfl⟩
  rw [hRV]
  have HRV := Lib.hid hRV
  clear hRV hb
  have HBt := Lib.hid hbt
  clear hbt
  go_enter Tryz.func72, Tryz.ntmps72
  go_upto_region 1 with fail
  refine wp_world ?_
  intro W0 hW0
  have HB := Lib.hid (show Blk W0 w.heap.size 66 C from by rw [hW0]; exact bk_)
  have HT := Lib.hid (show Blk W0 (w.heap.size + 1) 71 (telC 0 0 (fun _ => 0)) from (show Blk W0 (w.heap.size + 1) 71 #[.int .i64 0, .int .i64 0, .int .i64 0, .int .i64 0, .int .i64 0, .int .i64 0] from by rw [hW0]; exact bk_))
  have HL := Lib.hid (show Below w.heap.size w W0 from by rw [hW0]; exact bl_)
  clear hW0
  have y0 := (HB.out.cell 0).trans h0
  have lB := HB.out.lt
  have HSz := Lib.hid hsz
  clear hsz h0
  have hs0 := HL.out.size
  go_cut [4] (fun s4 wx => s4 = .int .i64 E ∧ Below W0.heap.size W0 wx)
  case first =>
    as_aux_lemma =>
      go_wp2_with fail
      (refine wp_region_calm [] [0, 1, 2, 3, 4, 5, 6, 7, 8, 9] 3 (by kernel_rfl) rfl (by kernel_rfl) (by kernel_rfl) (by kernel_rfl) ?_; simp only [pickB, List.filterMap_cons, List.filterMap_nil, List.getElem?_toArray, List.getElem?_cons_zero, List.getElem?_cons_succ]; (repeat (first | ((first | (with_reducible refine quietL_plain rfl (fun K hK => ?_)) | (with_reducible refine quietL_want (by with_unfolding_all rfl) (fun K hK => ?_))); (apply Exists.intro; refine ⟨fun wx hx => ?_, ?_⟩; (· (have hcx := ifs_ex hx); simp [go_sem, *, ↓IntWalk.iteOmega] <;> (first | rfl | exact ⟨rfl, rfl⟩ | (first | (with_reducible exact calls_B (calls_below (pwhen_any _ _ _))) | (exact calls_B (calls_below (HN.out _ _ (HB.out.kept (Ex.low hx))))) | (exact calls_B (calls_below (HK.out _ _ (HB.out.kept (Ex.low hx)))))))); (simp only [Act.put, List.setIfInBounds_toArray, List.set_cons_zero, List.set_cons_succ]; refine hK _ ?_; clear hK K))) | ((with_reducible refine quietL_skip (by with_unfolding_all rfl) ?_); simp only [Act.put, List.setIfInBounds_toArray, List.set_cons_zero, List.set_cons_succ]))); refine quietL_nil ?_)
      refine anyB_one (i := 10) (by kernel_rfl) rfl rfl ?_
      intro w1 hb1 K hK
      have HP1 := Lib.hid (hb1.trans (((Below.refl _ _).alloc (Nat.le_refl _) (.cells #[.int .i64 (whenE (b0 != 177) 1), .int .i64 (whenE (nn != kk) 27)] 31)).mono hb1.size))
      have HF := Lib.hid (Blk.new w1 31 #[.int .i64 (whenE (b0 != 177) 1), .int .i64 (whenE (nn != kk) 27)])
      go_wp2
      refine ⟨Ex.of_below HP1.out, ?_⟩
      clear hb1
      refine anyB_one (i := 11) (by kernel_rfl) rfl rfl ?_
      intro w2 hb2 K hK
      have HP2 := Lib.hid (HP1.out.trans (hb2.mono HP1.out.size))
      have HF2 := HF.out.kept hb2
      have hr2 : Reads w2 (w1.heap.size + 1) 1 (some ⟨w1.heap.size, 0, none⟩) 2 (([whenE (b0 != 177) 1, whenE (nn != kk) 27] : List Int).map (.int .i64)) := Reads.blk HF2 rfl
      go_wp2_with fail
      refine (pfirst_any _ _ 2 2 _ w2 hr2 (by unfold maxLen; omega)).mono ?_
      rw [← HE.out]
      rintro e w3 ⟨rfl, rfl⟩
      go_wp2
      have hx2 := Ex.of_below (X := []) HP2.out
      refine ⟨hx2, ?_⟩
      clear hb2
      (refine anyB_one (i := 12) (by kernel_rfl) rfl rfl ?_; intro w4 hb4 K hK; have hs4 := hb4.size; (try simp at hs4); go_wp2; refine ⟨xs_, ?_⟩)
      (refine anyB_end (by kernel_rfl) ?_; intro w5 hb5; have hs5 := hb5.size; (try simp at hs5); simp only [Calm])
      have HP5 := Lib.hid ((HP2.out.trans (hb4.mono HP2.out.size)).trans (hb5.mono (by have := HP2.out.size; omega)))
      go_wp2_with fail
      go_meet
      case rel => exact ⟨rfl, HP5.out⟩
  rename World => W1
  obtain ⟨rfl, hb⟩ := hcut
  have HB1 := Lib.hid (HB.out.kept hb)
  have HT1 := Lib.hid (HT.out.kept hb)
  have HL1 := Lib.hid (HL.out.trans (hb.mono HL.out.size))
  have hs1 := HL1.out.size
  clear hb HB HT HL y0 lB HN HK HE
  have lB := HB1.out.lt
  have cT := HT1.out.cell
  have fT := HT1.out.frozen
  have lT := HT1.out.lt
  by_cases h00 : E = 0
  · have hrv := HRV.out
    rw [if_pos h00] at hrv
    subst h00
    subst hrv
    have y1 := (HB1.out.cell 1).trans h1
    have HN2 := Lib.hid (fun (W : World) (g : Nat) (hB : Blk W g 66 C) => HNum.out W g 2 2 14 hB (by decide) (by decide))
    have HNk := Lib.hid (fun (W : World) (g k : Nat) (hk : k < 4) (hB : Blk W g 66 C) => HNum.out W g (4 + 2 * k) 2 (16 - (4 + 2 * k)) hB (by omega) (by decide))
    obtain ⟨sv, hsv⟩ : ∃ sv, decS bs = sv := ⟨_, rfl⟩
    obtain ⟨cv, hcv⟩ : ∃ cv, decC bs = cv := ⟨_, rfl⟩
    have e2 : numB ((bs.drop 2).take 2) = cv := hcv
    have HN2' := HN2.out
    rw [e2] at HN2'
    rw [hsv] at y1 hsb
    have HN2 := Lib.hid HN2'
    have HSv := Lib.hid hsv
    have HCv := Lib.hid hcv
    clear HN2' e2 hsv hcv h1 HRV HNum cT fT lT
    go_upto_region 4 with fail
    refine wp_world ?_
    intro W2 hW2
    have hb2 : Below W1.heap.size W1 W2 := by rw [hW2]; exact bl_
    have HB2 := Lib.hid (HB1.out.kept hb2)
    have HT2 := Lib.hid (HT1.out.kept hb2)
    have HL2 := Lib.hid (HL1.out.trans (hb2.mono HL1.out.size))
    have y1 := (hb2.cell (p := ⟨w.heap.size, 1, none⟩) lB).trans y1
    have hT2l := HT2.out.lt
    clear hW2 hb2 HB1 HT1 HL1
    have lB := HB2.out.lt
    go_cut [5] (fun s5 wx => ∃ g, s5 = .pointer (some ⟨g, 0, none⟩) ∧ DcI w C bs sv cv g 0 wx)
    case first =>
      as_aux_lemma =>
        go_wp2_with fail
        have hwr : IntKind.i64.wrap sv = sv := by rw [IntKind.wrap_i64]; omega
        (refine wp_region_calm [] [0, 1, 2, 3, 4, 5] 2 (by kernel_rfl) rfl (by kernel_rfl) (by kernel_rfl) (by kernel_rfl) ?_; simp only [pickB, List.filterMap_cons, List.filterMap_nil, List.getElem?_toArray, List.getElem?_cons_zero, List.getElem?_cons_succ]; (iterate 5 (first | ((with_reducible refine quietL_plain rfl (fun K hK => ?_)); (apply Exists.intro; refine ⟨fun wx hx => ?_, ?_⟩; (· (have hcx := ifs_ex hx); simp [go_sem, *, ↓IntWalk.iteOmega] <;> (first | rfl | exact ⟨rfl, rfl⟩ | (exact calls_B (calls_below (HN2.out _ _ (HB2.out.kept (Ex.low hx))))))); (simp only [Act.put, List.setIfInBounds_toArray, List.set_cons_zero, List.set_cons_succ]; refine hK _ ?_; clear hK K))) | ((with_reducible refine quietL_skip (by with_unfolding_all rfl) ?_); simp only [Act.put, List.setIfInBounds_toArray, List.set_cons_zero, List.set_cons_succ]) | ((with_reducible refine quietL_want (by with_unfolding_all rfl) (fun K hK => ?_)); (apply Exists.intro; refine ⟨fun wx hx => ?_, ?_⟩; (· (have hcx := ifs_ex hx); simp [go_sem, *, ↓IntWalk.iteOmega] <;> (first | rfl | exact ⟨rfl, rfl⟩ | (exact calls_B (calls_below (HN2.out _ _ (HB2.out.kept (Ex.low hx))))))); (simp only [Act.put, List.setIfInBounds_toArray, List.set_cons_zero, List.set_cons_succ]; refine hK _ ?_; clear hK K))))); ((with_reducible refine quietL_plain rfl (fun K hK => ?_)); refine ⟨.agg #[.int .i64 sv, .int .i64 cv, .int .i64 0, .int .i64 0, .int .i64 0, .int .i64 0], fun wx hx => quiet_bl 71 _ [(0, .int .i64 sv), (1, .int .i64 cv)] #[.int .i64 sv, .int .i64 cv, .int .i64 0, .int .i64 0, .int .i64 0, .int .i64 0] rfl rfl (by kernel_rfl), ?_⟩; (simp only [Act.put, List.setIfInBounds_toArray, List.set_cons_zero, List.set_cons_succ]; refine hK _ ?_; clear hK K)); refine quietL_nil ?_)
        refine anyB_one (i := 6) (by kernel_rfl) rfl rfl ?_
        intro w3 hb3 K hK
        have HP3 := Lib.hid (hb3.trans (((Below.refl _ _).alloc (Nat.le_refl _) (.cells #[.int .i64 0, .int .i64 0, .int .i64 0, .int .i64 0, .int .i64 0, .int .i64 0] 71)).mono hb3.size))
        have HF := Lib.hid (Blk.new w3 71 #[.int .i64 0, .int .i64 0, .int .i64 0, .int .i64 0, .int .i64 0, .int .i64 0])
        have hs3 := hb3.size
        go_wp2
        have hx3 := Ex.of_below (X := []) HP3.out
        refine ⟨hx3, ?_⟩
        clear hb3
        refine anyB_one (i := 7) (by kernel_rfl) rfl rfl ?_
        intro w4 hb4 K hK
        have HP4 := Lib.hid (HP3.out.trans (hb4.mono HP3.out.size))
        have HF4 := Lib.hid (HF.out.kept hb4)
        have cF := HF4.out.cell
        have fF := HF4.out.frozen
        have lF := HF4.out.lt
        clear hb4 HF HP3
        generalize w3.heap.size = g at *
        go_wp2
        have HP5 := Lib.hid (put6_low (b := g) (v0 := .int .i64 sv) (v1 := .int .i64 cv) (v2 := .int .i64 0) (v3 := .int .i64 0) (v4 := .int .i64 0) (v5 := .int .i64 0) HP4.out hs3)
        have HF5 := Lib.hid (put6_blk (v0 := .int .i64 sv) (v1 := .int .i64 cv) (v2 := .int .i64 0) (v3 := .int .i64 0) (v4 := .int .i64 0) (v5 := .int .i64 0) HF4.out)
        have hx5 := Ex.of_below (X := []) HP5.out
        refine ⟨hx5, ?_⟩
        clear hx3 cF fF lF HF4 HP4
        refine anyB_end (by kernel_rfl) ?_
        intro w6 hb6
        simp only [Calm]
        have HP6 := Lib.hid (HP5.out.trans (hb6.mono HP5.out.size))
        have HF6 := Lib.hid (HF5.out.kept hb6)
        clear hb6 HP5 HF5
        go_wp2_with fail
        go_meet
        case rel => exact ⟨g, rfl, HB2.out.kept HP6.out, HT2.out.kept HP6.out, HF6.out, HL2.out.trans (HP6.out.mono HL2.out.size), by omega⟩
    rename World => W3
    obtain ⟨g, rfl, hI⟩ := hcut
    have HI := Lib.hid hI
    clear hI HB2 HT2 HL2 y1 lB
    go_upto_block 0 with fail
    go_cut [] (fun wx => DcI w C bs sv cv g 4 wx)
    case first =>
      as_aux_lemma =>
        go_wp2_with fail
        go_loopw [30] (fun s30 wr => ∃ k : Nat, k ≤ 4 ∧ s30 = .int .i64 (k : Int) ∧ DcI w C bs sv cv g k wr) (fun s30 _ => 4 - (intOf s30).toNat)
        case atStart => exact ⟨0, by omega, rfl, HI.out⟩
        case round =>
          obtain ⟨k, hk, rfl, hI⟩ := hrel
          have HI := Lib.hid hI
          clear hI
          by_cases hlt : k < 4
          · skip
            as_aux_lemma =>
              have hk4 : (k : Int) < 4 := by omega
              have hw1 : IntKind.i64.wrap (2 * (k : Int)) = 2 * (k : Int) := by rw [IntKind.wrap_i64]; omega
              have hw2 : IntKind.i64.wrap (4 + 2 * (k : Int)) = 4 + 2 * (k : Int) := by rw [IntKind.wrap_i64]; omega
              have hw3 : IntKind.i64.wrap (6 + 2 * (k : Int)) = 6 + 2 * (k : Int) := by rw [IntKind.wrap_i64]; omega
              have lB := HI.out.arr.lt
              have hdn : decV bs k = (if 32768 ≤ numB ((bs.drop (4 + 2 * k)).take 2) then numB ((bs.drop (4 + 2 * k)).take 2) - 65536 else numB ((bs.drop (4 + 2 * k)).take 2)) := rfl
              have hn2 := numB_two (l := (bs.drop (4 + 2 * k)).take 2) (by rw [List.length_take, List.length_drop, h16]; omega) (HBt.out (4 + 2 * k) 2)
              have HNw := HNk.out wr w.heap.size k hlt HI.out.arr
              generalize numB ((bs.drop (4 + 2 * k)).take 2) = nv at *
              have HDn := Lib.hid hdn
              have HNw := Lib.hid HNw
              have e1 : (4 + 2 * (k : Int)).toNat = 4 + 2 * k := by omega
              have e2 : (6 + 2 * (k : Int)).toNat = 6 + 2 * k := by omega
              have e3 : 6 + 2 * k - (4 + 2 * k) = 2 := by omega
              have e4 : (6 + 2 * (k : Int)) - (4 + 2 * (k : Int)) = 2 := by omega
              have e5 : (0 : Int) ≤ 4 + 2 * (k : Int) := by omega
              have e6 : 4 + 2 * (k : Int) ≤ 6 + 2 * (k : Int) := by omega
              have e7 : 6 + 2 * (k : Int) ≤ 16 := by omega
              clear hdn HNk
              go_wp2_with fail
              refine HNw.out.mono ?_
              rintro e w4 ⟨rfl, rfl⟩
              have hcl := HI.out.val hlt
              have hct := HI.out.tel.cell (2 + k)
              obtain ⟨u, hu⟩ := hcl
              have fT := HI.out.tel.frozen (2 + k)
              have lT := HI.out.tel.lt
              have hNx := Lib.hid (HI.out.next hlt)
              clear hct HNw e1 e2 e3 e4 e5 e6 e7 hw1 hw2 hw3
              have hwk : IntKind.i64.wrap ((k : Int) + 1) = (k : Int) + 1 := by rw [IntKind.wrap_i64]; omega
              by_cases h3 : 32768 ≤ nv
              · have hdv : decV bs k = nv - 65536 := by rw [HDn.out, if_pos h3]
                rw [hdv] at hNx
                have hw4 : IntKind.i64.wrap (nv - 65536) = nv - 65536 := by rw [IntKind.wrap_i64]; omega
                clear hdv HDn
                go_wp2_with fail
                go_roundw
                case rel => exact ⟨k + 1, by omega, by go_num, hNx.out⟩
                case measure => simp [intOf]; omega
              · have hdv : decV bs k = nv := by rw [HDn.out, if_neg h3]
                rw [hdv] at hNx
                clear hdv HDn
                go_wp2_with fail
                go_roundw
                case rel => exact ⟨k + 1, by omega, by go_num, hNx.out⟩
                case measure => simp [intOf]; omega
          · obtain rfl : k = 4 := by omega
            go_wp2_with fail
            go_meet
            case rel => exact HI.out
    rename World => W4
    have HI := Lib.hid hcut
    clear hcut
    have cT := HI.out.tel.cell
    have fO := HI.out.out.frozen
    have cO := HI.out.out.cell
    have lO := HI.out.out.lt
    have lT := HI.out.tel.lt
    unfold telC at cT cO
    go_wp2_with fail
    have hfin : telC sv cv (tvV bs 4) = telC sv cv (decV bs) := rfl
    refine bodyPost_ret (results_blk_tmp Tryz.results72 _ _ (w.heap.size + 1) 71 (telC (decS bs) (decC bs) (decV bs)) _ (.int .i64 0) rfl ?_ Tryz.underlying71 rfl rfl rfl) rfl ⟨rfl, put6_low HI.out.low (Nat.le_succ _)⟩
    rw [HSv.out, HCv.out, ← hfin]
    exact put6_blk HI.out.out
  · have hne : (E != 0) = true := by simpa using h00
    have hrv := HRV.out
    rw [if_neg h00] at hrv
    subst hrv
    unfold telC at cT
    go_wp2_with fail
    refine bodyPost_ret (results_blk_tmp Tryz.results72 _ _ (w.heap.size + 1) 71 (telC 0 0 (fun _ => 0)) _ (.int .i64 E) rfl (put6_blk HT1.out) Tryz.underlying71 rfl rfl rfl) rfl ⟨rfl, put6_low HL1.out (Nat.le_succ _)⟩
end Go.Proofs.YtafnebfchhmgcaaGreat
