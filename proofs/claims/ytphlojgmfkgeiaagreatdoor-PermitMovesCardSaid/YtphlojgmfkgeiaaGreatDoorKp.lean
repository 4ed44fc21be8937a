/- Joined texts: WI WJ WK. -/
import Derived.Test.YtphlojgmfkgeiaaGreatDoorKm
import Derived.Test.YtphlojgmfkgeiaaGreatDoorKk
import Derived.Test.YtphlojgmfkgeiaaGreatDoorKi
import Derived.Test.YtphlojgmfkgeiaaGreatDoorKa
/- Reference: the islands. -/
namespace Go.Proofs.YtphlojgmfkgeiaaGreatDoor
open Go.RowKit Go.Sort Go.Shelf
set_option linter.unusedSimpArgs false
set_option linter.unusedVariables false
attribute [local go_sem] cell_if frozen_if grow_cell
theorem IntsRow.own {w w' : World} {zs : List Int} {e : Ending} (h : IntsRow w zs e w') (h0 : 0 < zs.length) : ∃ g cap, e = .returned (.slice (some ⟨g, 0, none⟩) zs.length cap) ∧ Own w' w.heap.size 3 1 g zs.length cap (zs.map (.int .i64)) ∧ Below w.heap.size w w' := by
  obtain ⟨A, cap, rfl, hO, hb⟩ := h
  rcases hO.2 with ⟨_, h1⟩ | ⟨g, cap', cur, hv, _⟩
  · omega
  · cases hv
    exact ⟨g, cap, rfl, hO, hb⟩
def IslsRes (w : World) (zss : List (List Int)) (e : Ending) (w' : World) : Prop := ∃ A cap vs, e = .returned (.slice A zss.length cap) ∧ Reads w' w'.heap.size 1 A zss.length vs ∧ (∀ (j : Nat) (v : Value) (zs : List Int), vs[j]? = some v → zss[j]? = some zs → ∃ A' c', v = .slice A' zs.length c' ∧ Reads w' w'.heap.size 1 A' zs.length (zs.map (.int .i64))) ∧ Below w.heap.size w w'
structure IlR (w : World) (A0 A1 A2 : Option Addr) (n0 n1 n2 c0 c1 c2 : Nat) (zss : List (List Int)) (v : Value) (vs : List Value) (W : World) : Prop where
  row : W.ownsRow w.heap.size 29 1 v zss.length vs
  els : ∀ (j : Nat) (u : Value) (zs : List Int), vs[j]? = some u → zss[j]? = some zs → RowR (vb v) W u zs
  box : Blk W w.heap.size 26 #[.slice A0 n0 c0, .slice A1 n1 c1, .slice A2 n2 c2]
  low : Below w.heap.size w W
theorem IlR.kept {w : World} {A0 A1 A2 : Option Addr} {n0 n1 n2 c0 c1 c2 : Nat} {zss : List (List Int)} {v : Value} {vs : List Value} {W W' : World} (h : IlR w A0 A1 A2 n0 n1 n2 c0 c1 c2 zss v vs W) (hb : Below W.heap.size W W') : IlR w A0 A1 A2 n0 n1 n2 c0 c1 c2 zss v vs W' :=
  ⟨own_kept h.row hb, fun j u zs hu hz => (h.els j u zs hu hz).ex (Ex.of_below hb), h.box.kept hb, h.low.trans (hb.mono h.low.size)⟩
theorem IlR.add {w : World} {A0 A1 A2 : Option Addr} {n0 n1 n2 c0 c1 c2 : Nat} {zss : List (List Int)} {v : Value} {vs : List Value} {W W' : World} {g' cap' : Nat} {u : Value} {zs : List Int} (h : IlR w A0 A1 A2 n0 n1 n2 c0 c1 c2 zss v vs W) (hg : W.grownBy W' v.ownBlock) (hat : v.ownBlock = some g' ∨ W.heap.size ≤ g') (hown : Own W' w.heap.size 29 1 g' (zss.length + 1) cap' (vs ++ [u])) (hu : RowR (vb v) W u zs) : IlR w A0 A1 A2 n0 n1 n2 c0 c1 c2 (zss ++ [zs]) (.slice (some ⟨g', 0, none⟩) (zss.length + 1) cap') (vs ++ [u]) W' := by
  have hx : Ex (vb v) W W' := Ex.of_grown hg (fun r e => by simp [vb, e])
  have turn : ∀ {u zs}, RowR (vb v) W u zs → RowR (vb (.slice (some ⟨g', 0, none⟩) (zss.length + 1) cap')) W' u zs := fun hr => hr.turn hx (fun x hx => by
    have e : x = g' := by simpa [vb, Value.ownBlock] using hx
    subst e
    rcases hat with h1 | h1
    · left; simp [vb, h1]
    · exact .inr h1)
  have hvl : vs.length = zss.length := by have := h.row.1; simpa using this
  refine ⟨by rw [List.length_append]; exact hown, fun j u' zs' hu' hz' => ?_, h.box.grown hg (fun e => row_own_neW h.row h.box (by decide) e.symm), h.low.grown hg h.low.size (fun k e => (h.row.lt k e).1)⟩
  rcases Nat.lt_or_ge j vs.length with hj | hj
  · rw [List.getElem?_append_left hj] at hu'
    rw [List.getElem?_append_left (by rw [← hvl]; exact hj)] at hz'
    exact turn (h.els j u' zs' hu' hz')
  · have hj0 : j = vs.length := by
      have := (List.getElem?_eq_some_iff.1 hu').1
      simp at this
      omega
    subst hj0
    simp at hu'
    rw [hvl] at hz'
    simp at hz'
    subst hu'
    subst hz'
    exact turn hu
set_option maxRecDepth 100000 in
set_option maxHeartbeats 2000000 in
theorem rIslands_any (B : Nat) (A0 A1 A2 : Option Addr) (n0 n1 n2 c0 c1 c2 : Nat) (y : Yd) (w : World) (hY : YdAt w B A0 A1 A2 n0 n1 n2 y) (hB : B ≤ w.heap.size) (hP : Parts y) : Calls Tryz.prog 33 #[.agg #[.slice A0 n0 c0, .slice A1 n1 c1, .slice A2 n2 c2]] w (IslsRes w (islsL y)) := by
  have hl0 := (sec_at hY.hs).1
  have hl1 := (sw_at hY.hw).1
  have h8 := hP.n8
  have h8' := hP.w8
  have HI := Lib.hid (fun W (hW : Below w.heap.size w W) i hi => rIsland_any B A0 A1 A2 n0 n1 n2 c0 c1 c2 y i false W (hY.below (hW.mono hB)) (by have := hW.size; omega) hP.ends hi (by omega) (by omega))
  have HIl := Lib.hid (fun i (hi : i ∈ rng y.s.length) => (And.intro (isl_self (all := false) hP.ends hi) (isl_len (all := false) hP.ends hi) : i ∈ y.isl false i ∧ (y.isl false i).length ≤ y.s.length))
  have HL0 := Lib.hid hl0
  have hn0 : n0 ≤ 8 := hl0 ▸ h8
  clear hY hP hl0 hl1
  go_enter Tryz.func33, Tryz.ntmps33
  go_wp2_with fail
  go_loopw [3, 4] (fun s5 i wr => ∃ (k : Nat) (vs : List Value) (v : Value), k ≤ n0 ∧ i = .int .i64 k ∧ v = s5 ∧ IlR w A0 A1 A2 n0 n1 n2 c0 c1 c2 (islsTo y k) v vs wr) (fun _ i _ => n0 - (intOf i).toNat)
  case atStart => exact ⟨0, [], _, by omega, rfl, rfl, World.ownsRow_nil _ _ _ _, fun j v zs h _ => by simp at h, bk_, bl_⟩
  case round =>
    obtain ⟨k, vs, v, hk, rfl, rfl, hI⟩ := hrel
    have hsr := hI.low.size
    have cY := hI.box.cell
    have lY := hI.box.lt
    have HII := Lib.hid hI
    clear hI
    by_cases hlt : k < n0
    · have hin : (k : Int) ∈ rng y.s.length := mem_rng.2 ⟨by omega, by have := HL0.out; omega⟩
      have HIk := Lib.hid (fun W hW => HI.out W hW k hin)
      obtain ⟨hself, hil⟩ := HIl.out k hin
      have HS := Lib.hid (islsTo_succ y k)
      have hzl := islsTo_len y k
      obtain ⟨hd, tl, hil2⟩ : ∃ hd tl, y.isl false (k : Int) = hd :: tl := by
        cases h : y.isl false (k : Int) with
        | nil => rw [h] at hself; cases hself
        | cons a r => exact ⟨a, r, rfl⟩
      have HH : Hid (headIs (y.isl false (k : Int)) k = (hd == (k : Int))) := by
        show _ = _
        rw [hil2]
        by_cases e : hd = (k : Int)
        · simp [headIs, e]
        · simp [headIs, e]
      clear hself
      generalize islsTo y k = zss at *
      rw [hil2] at HIk HS hil
      rw [hil2] at HH
      rw [HH.out] at HS
      have hl8 : (hd :: tl).length ≤ 8 := by omega
      cases hq : (hd == (k : Int)) with
      | false =>
        have HF : Hid (islsTo y (k + 1) = zss) := by show _ = _; rw [HS.out, hq]; simp
        clear HS HH
        go_wp2_with fail
        refine ((HIk.out _ HII.out.low).mono fun _ _ h => h.own (by simp)).mono ?_
        rintro e w2 ⟨g, cap, rfl, hO, hb2⟩
        have hs2 := hb2.size
        obtain ⟨b, o, e, _, hc⟩ := hO.reads.2 (by simp)
        cases e
        have z0 := hc 0 _ rfl
        clear hc hO
        go_wp2_with fail
        go_roundw
        case rel => exact ⟨k + 1, vs, v, by omega, by go_num, rfl, by rw [HF.out]; exact HII.out.kept hb2⟩
        case measure => simp [intOf]; omega
      | true =>
        have HF : Hid (islsTo y (k + 1) = zss ++ [hd :: tl]) := by show _ = _; rw [HS.out, hq]; simp
        clear HS HH
        go_wp2_with fail
        refine ((HIk.out _ HII.out.low).mono fun _ _ h => h.own (by simp)).mono ?_
        rintro e w2 ⟨g, cap, rfl, hO, hb2⟩
        have hs2 := hb2.size
        obtain ⟨b, o, e, _, hc⟩ := hO.reads.2 (by simp)
        cases e
        have z0 := hc 0 _ rfl
        have HO := Lib.hid hO
        have HI2 := Lib.hid (HII.out.kept hb2)
        have hvlt := Lib.hid (fun x (hx : x ∈ vb v) => (HII.out.row.lt x (by simpa [vb] using hx)).2)
        clear hc hO
        go_wp2_with (at_builtin; refine wpList_appB 52 29 1 24 elemII rfl (.tmp 21) (.tmp 23) rfl w.heap.size v zss.length vs rfl (World.ownsRow.alloc HI2.out.row _) w2.heap.size 1 #[.slice (some ⟨g, 0, none⟩) (hd :: tl).length cap] rfl (Blk.new _ _ _) rfl ?h1 (by decide) ?h3 ?h4 ?h5 ?_)
        case h1 => rfl
        case h3 => unfold maxLen; omega
        case h4 => omega
        case h5 => have := HI2.out.low.size; simp; omega
        intro g' cap' w7 hown7 hg7 hat7
        have hg6 : w2.grownBy w7 v.ownBlock := World.grownBy_trans_alloc hg7
        have hat8 : v.ownBlock = some g' ∨ w2.heap.size ≤ g' := by
          rcases hat7 with h | h
          · exact .inl h
          · right; rw [h]; simp
        have HI7 := Lib.hid (HI2.out.add hg6 hat8 hown7 (RowR.own HO.out hvlt.out))
        clear hown7 hg7 hg6
        go_wp2
        go_roundw
        case rel => exact ⟨k + 1, _, _, by omega, by go_num, rfl, by rw [HF.out]; exact HI7.out⟩
        case measure => simp [intOf]; omega
    · obtain rfl : k = n0 := by omega
      obtain ⟨A', cap', rfl, _, _, hrd⟩ := own_form HII.out.row
      have HD := Lib.hid hrd
      go_wp2_with fail
      go_ret
      have hz : islsTo y k = islsL y := by rw [islsL, HL0.out]; rfl
      rw [← hz]
      refine ⟨A', cap', vs, rfl, HD.out, fun j u zs hu hz' => ?_, HII.out.low⟩
      obtain ⟨A2', c2', rfl, hr⟩ := HII.out.els j u zs hu hz'
      exact ⟨A2', c2', rfl, hr _ (Ex.refl _ _)⟩
end Go.Proofs.YtphlojgmfkgeiaaGreatDoor
/- Reference: the earths that are left. -/
namespace Go.Proofs.YtphlojgmfkgeiaaGreatDoor
open Go.RowKit Go.Sort Go.Shelf
set_option linter.unusedSimpArgs false
set_option linter.unusedVariables false
attribute [local go_sem] cell_if frozen_if grow_cell
def WordsIn (w : World) (zs : List ByteArray) (e : Ending) (w' : World) : Prop := ∃ A cap, e = .returned (.slice A zs.length cap) ∧ Reads w' w'.heap.size 1 A zs.length (zs.map .string) ∧ Below w.heap.size w w'
/-- The rounds: y's box, the row of names. -/
def rLeftI (w : World) (A0 A1 A2 : Option Addr) (n0 n1 n2 c0 c1 c2 : Nat) (zs : List ByteArray) (v : Value) (W : World) : Prop :=
  W.ownsRow (w.heap.size + 1) 9 1 v zs.length (zs.map .string) ∧ Blk W w.heap.size 26 #[.slice A0 n0 c0, .slice A1 n1 c1, .slice A2 n2 c2] ∧ Below w.heap.size w W
set_option maxRecDepth 100000 in
set_option maxHeartbeats 2000000 in
theorem rLeft_any (B : Nat) (A0 A1 A2 : Option Addr) (n0 n1 n2 c0 c1 c2 : Nat) (y : Yd) (w : World) (hY : YdAt w B A0 A1 A2 n0 n1 n2 y) (hB : B ≤ w.heap.size) (hP : Parts y) : Calls Tryz.prog 34 #[.agg #[.slice A0 n0 c0, .slice A1 n1 c1, .slice A2 n2 c2]] w (WordsIn w (leftL y)) := by
  have hl0 := (sec_at hY.hs).1
  obtain ⟨hl1, ha1⟩ := sw_at hY.hw
  obtain ⟨hl2, ha2⟩ := pm_at hY.hp
  have h8 := hP.w8
  have hs8 := hP.n8
  have hp8 := hP.p8
  have HY := Lib.hid hY
  have HA := Lib.hid ha1
  have HA2 := Lib.hid ha2
  have HP := Lib.hid hP
  have HL0 := Lib.hid hl0
  have HL1 := Lib.hid hl1
  have HL2 := Lib.hid hl2
  have hn1 : n1 ≤ 8 := hl1 ▸ h8
  have hn2 : n2 ≤ 8 := hl2 ▸ hp8
  have hn0 : n0 ≤ 8 := hl0 ▸ hs8
  clear hY hP ha1 ha2 hl0 hl1 hl2 h8 hp8
  go_enter Tryz.func34, Tryz.ntmps34
  go_wp2_with fail
  go_loopw [3, 4] (fun v i wr => ∃ k : Nat, k ≤ n1 ∧ i = .int .i64 k ∧ rLeftI w A0 A1 A2 n0 n1 n2 c0 c1 c2 (leftTo y k) v wr) (fun _ i _ => n1 - (intOf i).toNat)
  case atStart => exact ⟨0, by omega, rfl, World.ownsRow_nil _ _ _ _, bk_, bl_⟩
  case round =>
    obtain ⟨k, hk, rfl, hO, bY, hb⟩ := hrel
    have hsr := hb.size
    have cY := bY.cell
    have fY := bY.frozen
    have lY := bY.lt
    have HO := Lib.hid hO
    have BY := Lib.hid bY
    clear hO bY
    by_cases hlt : k < n1
    · have hkl : k < y.w.length := by rw [HL1.out]; exact hlt
      obtain ⟨b, o, eA, hbb, z0, z1, z2, z3, z4⟩ := HA.out k hkl
      have kb : ∀ i, wr.cell? ⟨b, i, none⟩ = w.cell? ⟨b, i, none⟩ := fun i => hb.cell (p := ⟨b, i, none⟩) (by simp; omega)
      rw [← kb] at z0 z1 z2 z3 z4
      clear kb
      subst eA
      have HS := Lib.hid (leftTo_succ y k hkl)
      have hlen := leftTo_len y k
      have hxa := mem_rng.2 (HP.out.sa _ (List.getElem_mem hkl))
      have HI := Lib.hid (fun W (hW : Below w.heap.size w W) => (rIsland_any B A0 (some ⟨b, o, none⟩) A2 n0 n1 n2 c0 c1 c2 y y.w[k].a false W (HY.out.below (hW.mono hB)) (by have := hW.size; omega) HP.out.ends hxa (by omega) (by omega)).mono fun _ _ h => h.res)
      have hil : (y.isl false y.w[k].a).length ≤ 8 := Nat.le_trans (isl_len (all := false) HP.out.ends hxa) hs8
      have HB : Hid (leftB y y.w[k] = (y.w[k].k.toList == earthL && y.w[k].c && !y.p.any (fun p => hasI (y.isl false y.w[k].a) p.s))) := rfl
      generalize leftTo y k = zs at *
      generalize y.w[k] = x at *
      obtain ⟨xn, xk, xa, xb, xc⟩ := x
      dsimp only at z0 z1 z2 z3 z4 HS HI HB hil
      clear hxa
      unfold earthL at HB
      change Hid (_ = _ ++ _) at HS
      cases h1 : (xk.toList == [101, 97, 114, 116, 104]) with
      | false =>
        have HF : Hid (leftTo y (k + 1) = zs) := by show _ = _; rw [HS.out, HB.out, h1]; simp
        clear HS HB HI
        cases xc
        all_goals
          go_wp2_with fail
          go_roundw
          case rel => exact ⟨k + 1, by omega, by go_num, by rw [HF.out]; exact own_kept HO.out bl_, BY.out.kept bl_, bl_⟩
          case measure => simp [intOf]; omega
      | true =>
        cases xc with
        | false =>
          have HF : Hid (leftTo y (k + 1) = zs) := by show _ = _; rw [HS.out, HB.out, h1]; simp
          clear HS HB HI
          go_wp2_with fail
          go_roundw
          case rel => exact ⟨k + 1, by omega, by go_num, by rw [HF.out]; exact own_kept HO.out bl_, BY.out.kept bl_, bl_⟩
          case measure => simp [intOf]; omega
        | true =>
          have HHB : Hid (leftB y ⟨xn, xk, xa, xb, true⟩ = !y.p.any (fun p => hasI (y.isl false xa) p.s)) := by show _ = _; rw [HB.out, h1]; simp
          clear HB
          go_wp2_with fail
          rename World => wo
          go_loopw [6, 7] (fun q i wx => ∃ j : Nat, j ≤ n2 ∧ i = .int .i64 j ∧ q = .bool ((y.p.take j).any (fun p => hasI (y.isl false xa) p.s)) ∧ Blk wx wo.heap.size 68 #[.string xn, .string xk, .int .i64 xa, .int .i64 xb, .bool true] ∧ Below wo.heap.size wo wx) (fun _ i _ => n2 - (intOf i).toNat)
          case atStart => exact ⟨0, by omega, rfl, rfl, bk_, bl_⟩
          case round =>
            obtain ⟨j, hj, rfl, rfl, bX, hbx⟩ := hrel
            have hsx := hbx.size
            have bYx := BY.out.kept hbx
            have cX := bX.cell
            have fX := bX.frozen
            have lX := bX.lt
            have cYx := bYx.cell
            have lYx := bYx.lt
            have BX := Lib.hid bX
            have hbwx : Below w.heap.size w wr := bl_
            clear bX bYx cY z0 z1 z2 z3 z4
            by_cases hltj : j < n2
            · have hjl : j < y.p.length := by rw [HL2.out]; exact hltj
              obtain ⟨b2, o2, eA2, hbb2, y0, y1⟩ := HA2.out j hjl
              have kb : ∀ i, wr.cell? ⟨b2, i, none⟩ = w.cell? ⟨b2, i, none⟩ := fun i => hbwx.cell (p := ⟨b2, i, none⟩) (by simp; omega)
              rw [← kb] at y0 y1
              clear kb
              subst eA2
              have HT := Lib.hid (any_take (fun p : Pm => hasI (y.isl false xa) p.s) y.p j hjl)
              have hb2w : b2 < wr.heap.size := by omega
              generalize (y.p.take j).any (fun p => hasI (y.isl false xa) p.s) = q0 at *
              generalize y.p[j] = p at *
              obtain ⟨pn, ps⟩ := p
              dsimp only at y0 y1 HT
              generalize hq : hasI (y.isl false xa) ps = q at *
              have HQ := Lib.hid hq
              clear hq
              cases q
              all_goals
                go_wp2_with fail
                (refine wp_region_calm [] [0, 1, 2, 4, 5, 6, 7, 8, 9] 2 (by kernel_rfl) rfl (by kernel_rfl) (by kernel_rfl) (by kernel_rfl) ?_; simp only [pickB, List.filterMap_cons, List.filterMap_nil, List.getElem?_toArray, List.getElem?_cons_zero, List.getElem?_cons_succ]; (repeat (first | ((with_reducible refine quietL_plain rfl (fun K hK => ?_)); (apply Exists.intro; refine ⟨fun wx hx => ?_, ?_⟩; (· (have hcx := ifs_ex hx); simp [go_sem, *, ↓IntWalk.iteOmega] <;> (first | rfl | exact ⟨rfl, rfl⟩ | fail)); (simp only [Act.put, List.setIfInBounds_toArray, List.set_cons_zero, List.set_cons_succ]; refine hK _ ?_; clear hK K))) | ((with_reducible refine quietL_skip (by with_unfolding_all rfl) ?_); simp only [Act.put, List.setIfInBounds_toArray, List.set_cons_zero, List.set_cons_succ]) | ((with_reducible refine quietL_want (by with_unfolding_all rfl) (fun K hK => ?_)); (apply Exists.intro; refine ⟨fun wx hx => ?_, ?_⟩; (· (have hcx := ifs_ex hx); simp [go_sem, *, ↓IntWalk.iteOmega] <;> (first | rfl | exact ⟨rfl, rfl⟩ | fail)); (simp only [Act.put, List.setIfInBounds_toArray, List.set_cons_zero, List.set_cons_succ]; refine hK _ ?_; clear hK K))))); refine quietL_nil ?_)
                (refine anyB_one (i := 3) (by kernel_rfl) rfl rfl ?_; intro wa hba K hK; obtain ⟨hca, hfa⟩ := ifs_of hba; have hsa := hba.size; (try simp at hsa); go_wp2_with fail)
                refine (HI.out _ bl_).mono ?_
                (rintro e wc ⟨Ac, capc, rfl, hrc, hbc⟩; have hsc := hbc.size; have HRc := Lib.hid hrc; clear hrc; (try simp at hsc))
                (go_wp2; refine ⟨xs_, ?_⟩)
                (refine anyB_one (i := 10) (by kernel_rfl) rfl rfl ?_; intro wd hbd K hK; obtain ⟨hcd, hfd⟩ := ifs_of hbd; have hsd := hbd.size; (try simp at hsd); go_wp2_with fail)
                refine (HasInt_any _ Ac _ capc (y.isl false xa) ps wd (HRc.out.below (by assumption)) (by unfold maxLen; omega)).mono ?_
                rw [HQ.out]
                rintro e we ⟨rfl, rfl⟩
                (go_wp2; refine ⟨xs_, ?_⟩)
                (refine anyB_end (by kernel_rfl) ?_; intro wf hbf; obtain ⟨hcf, hff⟩ := ifs_of hbf; have hsf := hbf.size; (try simp at hsf); simp only [Calm]; go_wp2_with fail)
                go_roundw
                case rel => exact ⟨j + 1, by omega, by go_num, by rw [HT.out]; cases q0 <;> rfl, BX.out.kept bl_, bl_⟩
                case measure => simp [intOf]; omega
            · obtain rfl : j = n2 := by omega
              have HO2 := Lib.hid (own_kept HO.out hbx)
              have BY2 := Lib.hid (BY.out.kept hbx)
              have HBw := Lib.hid hbwx
              have HAny : Hid ((y.p.take j).any (fun p => hasI (y.isl false xa) p.s) = y.p.any (fun p => hasI (y.isl false xa) p.s)) := by
                show _ = _
                rw [List.take_of_length_le (by rw [HL2.out]; exact Nat.le_refl _)]
              rw [HAny.out]
              cases hq : y.p.any (fun p => hasI (y.isl false xa) p.s) with
              | true =>
                have HF : Hid (leftTo y (k + 1) = zs) := by show _ = _; rw [HS.out, HHB.out, hq]; simp
                clear HS HHB HI HAny
                go_wp2_with fail
                go_roundw
                case rel => exact ⟨k + 1, by omega, by go_num, by rw [HF.out]; exact HO2.out, BY2.out, HBw.out⟩
                case measure => simp [intOf]; omega
              | false =>
                have HF : Hid (leftTo y (k + 1) = zs ++ [xn]) := by show _ = _; rw [HS.out, HHB.out, hq]; simp
                clear HS HHB HI HAny
                go_wp2_with (at_builtin; refine wpList_app 56 9 1 16 elemStr rfl (.tmp 48) (.tmp 51) rfl (w.heap.size + 1) _ zs.length _ rfl HO2.out 1 rfl rfl ?h1 (by decide) ?h3 (by omega) (by omega) ?_)
                case h1 => rfl
                case h3 => unfold maxLen; omega
                intro g' cap' w' hown' hb' hk' hs'
                go_wp2
                go_roundw
                case rel => exact ⟨k + 1, by omega, by go_num, by rw [HF.out, List.length_append, List.map_append]; exact hown', hk' _ _ _ BY2.out (fun e => by have := (HO2.out.lt _ e).1; omega), HBw.out.trans (hb'.mono (by omega))⟩
                case measure => simp [intOf]; omega
    · obtain rfl : k = n1 := by omega
      obtain ⟨A', cap', rfl, _, _, hrd⟩ := own_form HO.out
      have HD := Lib.hid hrd
      go_wp2_with fail
      go_ret
      have hz : leftTo y k = leftL y := by rw [← HL1.out, leftTo_all]
      rw [← hz]
      exact ⟨A', cap', rfl, HD.out, hb⟩
end Go.Proofs.YtphlojgmfkgeiaaGreatDoor
/- The law's side: listed, named. -/
namespace Go.Proofs.YtphlojgmfkgeiaaGreatDoor
open Go.RowKit Go.Sort
set_option linter.unusedSimpArgs false
set_option linter.unusedVariables false
attribute [local go_sem] cell_if frozen_if grow_cell
theorem sameI_refl : ∀ l : List Int, sameI l l = true
  | [] => rfl
  | a :: r => by simp [sameI, sameI_refl r]
theorem sameW_refl : ∀ l : List ByteArray, sameW l l = true
  | [] => rfl
  | a :: r => by simp [sameW, sameW_refl r]
/-- What is as wanted: both are errors, or both the same. -/
theorem listed_err (A B : Option Addr) (n c m d : Nat) (e : Int) (he : e ≠ 0) (hn : n = 0) (w : World) : Calls Tryz.prog 26 #[.slice A n c, .int .i64 e, .int .i64 e, .slice B m d] w fun e w' => e = .returned (.bool true) ∧ Below w.heap.size w w' := by
  subst hn
  have h1 : (e == 0) = false := by simpa using he
  have h2 : (e != 0) = true := by simpa using he
  go_enter Tryz.func26, Tryz.ntmps26
  go_wp2_with fail
  go_ret
  exact ⟨by first | rfl | (simp; done), bl_⟩
theorem named_err (A B : Option Addr) (n c m d : Nat) (e : Int) (he : e ≠ 0) (hn : n = 0) (w : World) : Calls Tryz.prog 38 #[.slice A n c, .int .i64 e, .int .i64 e, .slice B m d] w fun e w' => e = .returned (.bool true) ∧ Below w.heap.size w w' := by
  subst hn
  have h1 : (e == 0) = false := by simpa using he
  have h2 : (e != 0) = true := by simpa using he
  go_enter Tryz.func38, Tryz.ntmps38
  go_wp2_with fail
  go_ret
  exact ⟨by first | rfl | (simp; done), bl_⟩
theorem listed_ok (A B : Option Addr) (n c d : Nat) (zs : List Int) (hn : n = zs.length) (hm : n ≤ 1000) (w : World) (hA : Reads w w.heap.size 1 A n (zs.map (.int .i64))) (hB : Reads w w.heap.size 1 B n (zs.map (.int .i64))) : Calls Tryz.prog 26 #[.slice A n c, .int .i64 0, .int .i64 0, .slice B n d] w fun e w' => e = .returned (.bool true) ∧ Below w.heap.size w w' := by
  have HS := Lib.hid (SameInts_any _ _ A B n n c d zs zs w hA hB (Nat.le_refl _) (Nat.le_refl _) (by unfold maxLen; omega) (by unfold maxLen; omega))
  rw [sameI_refl] at HS
  clear hA hB hn hm
  go_enter Tryz.func26, Tryz.ntmps26
  go_wp2_with fail
  refine HS.out.mono ?_
  (rintro e w1 ⟨rfl, hb1⟩; have hs1 := hb1.size; (try simp at hs1))
  go_wp2_with fail
  go_ret
  exact ⟨by first | rfl | (simp; done), bl_⟩
theorem named_ok (A B : Option Addr) (n c d : Nat) (zs : List ByteArray) (hn : n = zs.length) (hm : n ≤ 1000) (w : World) (hA : Reads w w.heap.size 1 A n (zs.map .string)) (hB : Reads w w.heap.size 1 B n (zs.map .string)) : Calls Tryz.prog 38 #[.slice A n c, .int .i64 0, .int .i64 0, .slice B n d] w fun e w' => e = .returned (.bool true) ∧ Below w.heap.size w w' := by
  have HS := Lib.hid (SameWords_any _ _ A B n n c d zs zs w hA hB (Nat.le_refl _) (Nat.le_refl _) (by unfold maxLen; omega) (by unfold maxLen; omega))
  rw [sameW_refl] at HS
  clear hA hB hn hm
  go_enter Tryz.func38, Tryz.ntmps38
  go_wp2_with fail
  refine HS.out.mono ?_
  (rintro e w1 ⟨rfl, hb1⟩; have hs1 := hb1.size; (try simp at hs1))
  go_wp2_with fail
  go_ret
  exact ⟨by first | rfl | (simp; done), bl_⟩
end Go.Proofs.YtphlojgmfkgeiaaGreatDoor
