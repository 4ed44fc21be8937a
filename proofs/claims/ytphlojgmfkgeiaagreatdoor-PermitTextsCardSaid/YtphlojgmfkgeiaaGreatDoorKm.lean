/- Joined texts: VB VD VE VA. -/
import Derived.Test.YtphlojgmfkgeiaaGreatDoorKh
import Derived.Test.YtphlojgmfkgeiaaGreatDoorKk
import Derived.Test.YtphlojgmfkgeiaaGreatDoorKg
/- Islands. -/
namespace Go.Proofs.YtphlojgmfkgeiaaGreatDoor
open Go.RowKit Go.Sort Go.Shelf
set_option linter.unusedSimpArgs false
set_option linter.unusedVariables false
attribute [local go_sem] cell_if frozen_if grow_cell
theorem elemII : Elem Tryz.prog 52 29 1 24 := elem_of Tryz.underlying52 (z := .slice none 0 0) (by kernel_rfl) rfl (by decide)
def headIs (l : List Int) (i : Int) : Bool := l.head? == some i
def islsL (y : Yd) : List (List Int) := ((rng y.s.length).filter fun i => headIs (y.isl false i) i).map (y.isl false)
/-- A list of ints that stays, whatever becomes of the blocks Tryz. -/
def RowR (X : List Nat) (W : World) (v : Value) (zs : List Int) : Prop := ∃ A c, v = .slice A zs.length c ∧ ∀ W', Ex X W W' → Reads W' W'.heap.size 1 A zs.length (zs.map (.int .i64))
theorem RowR.turn {X Y : List Nat} {W W1 : World} {v : Value} {zs : List Int} (h : RowR X W v zs) (hb : Ex X W W1) (hY : ∀ x ∈ Y, x ∈ X ∨ W.heap.size ≤ x) : RowR Y W1 v zs := by
  obtain ⟨A, c, rfl, h⟩ := h
  exact ⟨A, c, rfl, fun W' h' => h W' ⟨h'.os.trans hb.os, h'.tape.trans hb.tape, h'.output.trans hb.output, Nat.le_trans hb.size h'.size, fun k hk hn =>
    (h'.block k (Nat.lt_of_lt_of_le hk hb.size) (fun hy => by
      rcases hY k hy with h1 | h1
      · exact hn h1
      · omega)).trans (hb.block k hk hn)⟩⟩
theorem RowR.ex {X : List Nat} {W W1 : World} {v : Value} {zs : List Int} (h : RowR X W v zs) (hb : Ex X W W1) : RowR X W1 v zs := h.turn hb (fun x hx => .inl hx)
theorem RowR.own {X : List Nat} {W : World} {base g c : Nat} {zs : List Int} (h : Own W base 3 1 g zs.length c (zs.map (.int .i64))) (hX : ∀ x ∈ X, x < base) : RowR X W (.slice (some ⟨g, 0, none⟩) zs.length c) zs :=
  ⟨_, _, rfl, fun W' h' => by
    have e := h.ex h' (fun hx => by have := hX g hx; have := h.lt.1; omega)
    exact e.reads.more e.lt.2⟩
/-- Lists of ints in a row. -/
def IslsERes (w : World) (zss : List (List Int)) (er : Int) (e : Ending) (w' : World) : Prop := ∃ A cap vs, e = .returned (.tuple #[.slice A zss.length cap, .int .i64 er]) ∧ Reads w' w'.heap.size 1 A zss.length vs ∧ (∀ (j : Nat) (v : Value) (zs : List Int), vs[j]? = some v → zss[j]? = some zs → ∃ A' c', v = .slice A' zs.length c' ∧ Reads w' w'.heap.size 1 A' zs.length (zs.map (.int .i64))) ∧ Below w.heap.size w w'
def islsTo (y : Yd) (k : Nat) : List (List Int) := ((rng k).filter fun i => headIs (y.isl false i) i).map (y.isl false)
theorem islsTo_succ (y : Yd) (k : Nat) : islsTo y (k + 1) = islsTo y k ++ (if headIs (y.isl false k) k then [y.isl false k] else []) := by
  unfold islsTo
  rw [rng_succ, List.filter_append, List.map_append]
  congr 1
  cases h : headIs (y.isl false k) k <;> simp [h]
theorem islsTo_len (y : Yd) (k : Nat) : (islsTo y k).length ≤ k := by
  unfold islsTo
  rw [List.length_map]
  have := List.length_filter_le (fun i => headIs (y.isl false i) i) (rng k)
  rwa [rng_len] at this
def vb (v : Value) : List Nat := v.ownBlock.toList
/-- The rounds. -/
structure IlI (w : World) (A0 A1 A2 : Option Addr) (n0 n1 n2 c0 c1 c2 : Nat) (zss : List (List Int)) (v : Value) (vs : List Value) (W : World) : Prop where
  row : W.ownsRow w.heap.size 29 1 v zss.length vs
  els : ∀ (j : Nat) (u : Value) (zs : List Int), vs[j]? = some u → zss[j]? = some zs → RowR (vb v) W u zs
  box : Blk W w.heap.size 41 #[.slice A0 n0 c0, .slice A1 n1 c1, .slice A2 n2 c2]
  low : Below w.heap.size w W
theorem IlI.kept {w : World} {A0 A1 A2 : Option Addr} {n0 n1 n2 c0 c1 c2 : Nat} {zss : List (List Int)} {v : Value} {vs : List Value} {W W' : World} (h : IlI w A0 A1 A2 n0 n1 n2 c0 c1 c2 zss v vs W) (hb : Below W.heap.size W W') : IlI w A0 A1 A2 n0 n1 n2 c0 c1 c2 zss v vs W' :=
  ⟨own_kept h.row hb, fun j u zs hu hz => (h.els j u zs hu hz).ex (Ex.of_below hb), h.box.kept hb, h.low.trans (hb.mono h.low.size)⟩
theorem IlI.add {w : World} {A0 A1 A2 : Option Addr} {n0 n1 n2 c0 c1 c2 : Nat} {zss : List (List Int)} {v : Value} {vs : List Value} {W W' : World} {g' cap' : Nat} {u : Value} {zs : List Int} (h : IlI w A0 A1 A2 n0 n1 n2 c0 c1 c2 zss v vs W) (hg : W.grownBy W' v.ownBlock) (hat : v.ownBlock = some g' ∨ W.heap.size ≤ g') (hown : Own W' w.heap.size 29 1 g' (zss.length + 1) cap' (vs ++ [u])) (hu : RowR (vb v) W u zs) : IlI w A0 A1 A2 n0 n1 n2 c0 c1 c2 (zss ++ [zs]) (.slice (some ⟨g', 0, none⟩) (zss.length + 1) cap') (vs ++ [u]) W' := by
  have hx : Ex (vb v) W W' := Ex.of_grown hg (fun r e => by simp [vb, e])
  have turn : ∀ {u zs}, RowR (vb v) W u zs → RowR (vb (.slice (some ⟨g', 0, none⟩) (zss.length + 1) cap')) W' u zs := fun hr => hr.turn hx (fun x hx => by
    have e : x = g' := by simpa [vb, Value.ownBlock] using hx
    subst e
    rcases hat with h1 | h1
    · left; simp [vb, h1]
    · exact .inr h1)
  have hvl : vs.length = zss.length := by have := h.row.1; simpa using this
  refine ⟨by rw [List.length_append]; exact hown, fun j u' zs' hu' hz' => ?_, h.box.grown hg (fun e => row_own_neW h.row h.box (by decide) e.symm), h.low.grown hg h.low.size (fun k e => (h.row.lt k e).1)⟩
  rcases Nat.lt_or_ge j vs.length with hj | hj
  · rw [List.getElem?_append_left hj] at hu'
    rw [List.getElem?_append_left (by rw [← hvl]; exact hj)] at hz'
    exact turn (h.els j u' zs' hu' hz')
  · have hj0 : j = vs.length := by
      have := (List.getElem?_eq_some_iff.1 hu').1
      simp at this
      omega
    subst hj0
    simp at hu'
    rw [hvl] at hz'
    simp at hz'
    subst hu'
    subst hz'
    exact turn hu
set_option maxRecDepth 100000 in
set_option maxHeartbeats 2000000 in
theorem Islands_any (B : Nat) (A0 A1 A2 : Option Addr) (n0 n1 n2 c0 c1 c2 : Nat) (y : Yd) (w : World) (hY : YdAt w B A0 A1 A2 n0 n1 n2 y) (hB : B ≤ w.heap.size) (hT : Tabs w) (hF : Fits y) : Calls Tryz.prog 27 #[.agg #[.slice A0 n0 c0, .slice A1 n1 c1, .slice A2 n2 c2]] w (IslsERes w (if yardE y = 0 then islsL y else []) (yardE y)) := by
  have hl0 := (sec_at hY.hs).1
  have hl1 := (sw_at hY.hw).1
  have H1 := Lib.hid (fun W (hW : Below w.heap.size w W) => CheckYard_any B A0 A1 A2 n0 n1 n2 c0 c1 c2 y W (hY.below (hW.mono hB)) (by have := hW.size; omega) (hT.kept hW) hF)
  cases he : (yardE y != 0) with
  | true =>
    have HE := Lib.hid (show yardE y ≠ 0 by simpa using he)
    rw [if_neg HE.out]
    clear hY hT hF
    generalize yardE y = ee at *
    go_enter Tryz.func27, Tryz.ntmps27
    go_wp2_with fail
    refine (H1.out _ bl_).mono ?_
    (rintro e w1 ⟨rfl, hb1⟩; have hs1 := hb1.size; (try simp at hs1))
    go_wp2_with fail
    go_ret2
    exact ⟨none, 0, [], rfl, Reads.nil_, fun j v zs h _ => by simp at h, bl_⟩
  | false =>
    have HE := Lib.hid (show yardE y = 0 by simpa using he)
    rw [if_pos HE.out, HE.out]
    rw [HE.out] at H1
    have hP := (yard_ok HE.out).1
    have h8 := hP.n8
    have h8' := hP.w8
    have HI := Lib.hid (fun W (hW : Below w.heap.size w W) i hi => island_own B A0 A1 A2 n0 n1 n2 c0 c1 c2 y i false W (hY.below (hW.mono hB)) (by have := hW.size; omega) hP.ends hi (by omega) (by omega))
    have HIl := Lib.hid (fun i (hi : i ∈ rng y.s.length) => (And.intro (isl_self (all := false) hP.ends hi) (isl_len (all := false) hP.ends hi) : i ∈ y.isl false i ∧ (y.isl false i).length ≤ y.s.length))
    have HL0 := Lib.hid hl0
    have hn0 : n0 ≤ 8 := hl0 ▸ h8
    clear he HE hT hF hY hP hl0 hl1
    go_enter Tryz.func27, Tryz.ntmps27
    go_wp2_with fail
    refine (H1.out _ bl_).mono ?_
    (rintro e w1 ⟨rfl, hb1⟩; have hs1 := hb1.size; (try simp at hs1))
    obtain ⟨hc1, hf1⟩ := ifs_of hb1; have hs1 := hb1.size; (try simp at hs1)
    go_wp2_with fail
    go_loopw [5, 16] (fun s5 i wr => ∃ (k : Nat) (vs : List Value) (v : Value), k ≤ n0 ∧ i = .int .i64 k ∧ v = s5 ∧ IlI w A0 A1 A2 n0 n1 n2 c0 c1 c2 (islsTo y k) v vs wr) (fun _ i _ => n0 - (intOf i).toNat)
    case atStart => exact ⟨0, [], _, by omega, rfl, rfl, World.ownsRow_nil _ _ _ _, fun j v zs h _ => by simp at h, bk_, bl_⟩
    case round =>
      obtain ⟨k, vs, v, hk, rfl, rfl, hI⟩ := hrel
      have hsr := hI.low.size
      have cY := hI.box.cell
      have lY := hI.box.lt
      have HII := Lib.hid hI
      clear hI
      by_cases hlt : k < n0
      · have hin : (k : Int) ∈ rng y.s.length := mem_rng.2 ⟨by omega, by have := HL0.out; omega⟩
        have HIk := Lib.hid (fun W hW => HI.out W hW k hin)
        obtain ⟨hself, hil⟩ := HIl.out k hin
        have HS := Lib.hid (islsTo_succ y k)
        have hzl := islsTo_len y k
        obtain ⟨hd, tl, hil2⟩ : ∃ hd tl, y.isl false (k : Int) = hd :: tl := by
          cases h : y.isl false (k : Int) with
          | nil => rw [h] at hself; cases hself
          | cons a r => exact ⟨a, r, rfl⟩
        have HH : Hid (headIs (y.isl false (k : Int)) k = (hd == (k : Int))) := by
          show _ = _
          rw [hil2]
          by_cases e : hd = (k : Int)
          · simp [headIs, e]
          · simp [headIs, e]
        clear hself
        generalize islsTo y k = zss at *
        rw [hil2] at HIk HS hil
        rw [hil2] at HH
        rw [HH.out] at HS
        have hl8 : (hd :: tl).length ≤ 8 := by omega
        cases hq : (hd == (k : Int)) with
        | false =>
          have HF : Hid (islsTo y (k + 1) = zss) := by show _ = _; rw [HS.out, hq]; simp
          clear HS HH
          go_wp2_with fail
          refine (HIk.out _ HII.out.low).mono ?_
          rintro e w2 ⟨g, cap, rfl, hO, hb2⟩
          have hs2 := hb2.size
          obtain ⟨b, o, e, _, hc⟩ := hO.reads.2 (by simp)
          cases e
          have z0 := hc 0 _ rfl
          clear hc hO
          go_wp2_with fail
          go_roundw
          case rel => exact ⟨k + 1, vs, v, by omega, by go_num, rfl, by rw [HF.out]; exact HII.out.kept hb2⟩
          case measure => simp [intOf]; omega
        | true =>
          have HF : Hid (islsTo y (k + 1) = zss ++ [hd :: tl]) := by show _ = _; rw [HS.out, hq]; simp
          clear HS HH
          go_wp2_with fail
          refine (HIk.out _ HII.out.low).mono ?_
          rintro e w2 ⟨g, cap, rfl, hO, hb2⟩
          have hs2 := hb2.size
          obtain ⟨b, o, e, _, hc⟩ := hO.reads.2 (by simp)
          cases e
          have z0 := hc 0 _ rfl
          have HO := Lib.hid hO
          have HI2 := Lib.hid (HII.out.kept hb2)
          have hvlt := Lib.hid (fun x (hx : x ∈ vb v) => (HII.out.row.lt x (by simpa [vb] using hx)).2)
          clear hc hO
          go_wp2_with (at_builtin; refine wpList_appB 52 29 1 24 elemII rfl (.tmp 27) (.tmp 29) rfl w.heap.size v zss.length vs rfl (World.ownsRow.alloc HI2.out.row _) w2.heap.size 1 #[.slice (some ⟨g, 0, none⟩) (hd :: tl).length cap] rfl (Blk.new _ _ _) rfl ?h1 (by decide) ?h3 ?h4 ?h5 ?_)
          case h1 => rfl
          case h3 => unfold maxLen; omega
          case h4 => omega
          case h5 => have := HI2.out.low.size; simp; omega
          intro g' cap' w7 hown7 hg7 hat7
          have hg6 : w2.grownBy w7 v.ownBlock := World.grownBy_trans_alloc hg7
          have hat8 : v.ownBlock = some g' ∨ w2.heap.size ≤ g' := by
            rcases hat7 with h | h
            · exact .inl h
            · right; rw [h]; simp
          have HI7 := Lib.hid (HI2.out.add hg6 hat8 hown7 (RowR.own HO.out hvlt.out))
          clear hown7 hg7 hg6
          go_wp2
          go_roundw
          case rel => exact ⟨k + 1, _, _, by omega, by go_num, rfl, by rw [HF.out]; exact HI7.out⟩
          case measure => simp [intOf]; omega
      · obtain rfl : k = n0 := by omega
        obtain ⟨A', cap', rfl, _, _, hrd⟩ := own_form HII.out.row
        have HD := Lib.hid hrd
        go_wp2_with fail
        go_ret2
        have hz : islsTo y k = islsL y := by rw [islsL, HL0.out]; rfl
        rw [← hz]
        refine ⟨A', cap', vs, rfl, HD.out, fun j u zs hu hz' => ?_, HII.out.low⟩
        obtain ⟨A2', c2', rfl, hr⟩ := HII.out.els j u zs hu hz'
        exact ⟨A2', c2', rfl, hr _ (Ex.refl _ _)⟩
end Go.Proofs.YtphlojgmfkgeiaaGreatDoor
/- own, told: yards with new lists, in the program's and in the reference's types. -/
namespace Go.Proofs.YtphlojgmfkgeiaaGreatDoor
open Go.RowKit Go.Sort Go.Shelf
set_option linter.unusedSimpArgs false
set_option linter.unusedVariables false
attribute [local go_sem] cell_if frozen_if grow_cell
theorem elemSecR : Elem Tryz.prog 22 66 2 24 := elem_of Tryz.underlying22 (z := .agg #[.string ⟨#[]⟩, .bool false]) (by kernel_rfl) rfl (by decide)
theorem elemPmR : Elem Tryz.prog 24 72 2 24 := elem_of Tryz.underlying24 (z := .agg #[.string ⟨#[]⟩, .int .i64 0]) (by kernel_rfl) rfl (by decide)
theorem elemSwR : Elem Tryz.prog 23 68 5 56 := elem_of Tryz.underlying23 (z := .agg #[.string ⟨#[]⟩, .string ⟨#[]⟩, .int .i64 0, .int .i64 0, .bool false]) (by kernel_rfl) rfl (by decide)
/-- A yard with rows of the call's own. -/
structure OwRow (T0 T1 T2 : TypeId) (base : Nat) (y : Yd) (A0 A1 A2 : Option Addr) (c0 c1 c2 : Nat) (W : World) : Prop where
  r0 : W.ownsRow base T0 2 (.slice A0 y.s.length c0) y.s.length (secs y.s)
  r1 : W.ownsRow base T1 5 (.slice A1 y.w.length c1) y.w.length (sws y.w)
  r2 : W.ownsRow base T2 2 (.slice A2 y.p.length c2) y.p.length (pms y.p)
theorem OwRow.yd {T0 T1 T2 : TypeId} {base : Nat} {y : Yd} {A0 A1 A2 : Option Addr} {c0 c1 c2 : Nat} {W : World} (h : OwRow T0 T1 T2 base y A0 A1 A2 c0 c1 c2 W) : YdAt W W.heap.size A0 A1 A2 y.s.length y.w.length y.p.length y := by
  obtain ⟨h0, h1, h2⟩ := h
  obtain ⟨A, c, e, _, _, r0⟩ := own_form h0
  cases e
  obtain ⟨A, c, e, _, _, r1⟩ := own_form h1
  cases e
  obtain ⟨A, c, e, _, _, r2⟩ := own_form h2
  cases e
  exact ⟨r0, r1, r2⟩
def OwRes (T0 T1 T2 : TypeId) (w : World) (y : Yd) (e : Ending) (w' : World) : Prop := ∃ A0 A1 A2 c0 c1 c2, e = .returned (.agg #[.slice A0 y.s.length c0, .slice A1 y.w.length c1, .slice A2 y.p.length c2]) ∧ OwRow T0 T1 T2 w.heap.size y A0 A1 A2 c0 c1 c2 w' ∧ Below w.heap.size w w'
/-- On the way: three rows; the yard's box, the result's block, the block of what comes out. -/
structure OwI (T0 T1 T2 TS TY : TypeId) (w : World) (A0 A1 A2 : Option Addr) (n0 n1 n2 c0 c1 c2 : Nat) (y : Yd) (k0 k1 k2 : Nat) (v0 v1 v2 : Value) (W : World) : Prop where
  r0 : W.ownsRow w.heap.size T0 2 v0 k0 (secs (y.s.take k0))
  r1 : W.ownsRow w.heap.size T1 5 v1 k1 (sws (y.w.take k1))
  r2 : W.ownsRow w.heap.size T2 2 v2 k2 (pms (y.p.take k2))
  box : Blk W w.heap.size TS #[.slice A0 n0 c0, .slice A1 n1 c1, .slice A2 n2 c2]
  b2 : Blk W (w.heap.size + 1) TY #[.slice none 0 0, .slice none 0 0, .slice none 0 0]
  b3 : Blk W (w.heap.size + 1 + 1) TY #[v0, v1, v2]
  low : Below w.heap.size w W
theorem OwI.kept {T0 T1 T2 TS TY : TypeId} {w : World} {A0 A1 A2 : Option Addr} {n0 n1 n2 c0 c1 c2 : Nat} {y : Yd} {k0 k1 k2 : Nat} {v0 v1 v2 : Value} {W W' : World} (h : OwI T0 T1 T2 TS TY w A0 A1 A2 n0 n1 n2 c0 c1 c2 y k0 k1 k2 v0 v1 v2 W) (hb : Below W.heap.size W W') : OwI T0 T1 T2 TS TY w A0 A1 A2 n0 n1 n2 c0 c1 c2 y k0 k1 k2 v0 v1 v2 W' :=
  ⟨own_kept h.r0 hb, own_kept h.r1 hb, own_kept h.r2 hb, h.box.kept hb, h.b2.kept hb, h.b3.kept hb, h.low.trans (hb.mono h.low.size)⟩
theorem secs_take (l : List Sec) (k : Nat) (h : k < l.length) : secs (l.take (k + 1)) = secs (l.take k) ++ [.string l[k].n, .bool l[k].src] := by
  unfold secs; rw [List.take_succ_eq_append_getElem h, List.flatMap_append]; rfl
theorem sws_take (l : List Sw) (k : Nat) (h : k < l.length) : sws (l.take (k + 1)) = sws (l.take k) ++ [.string l[k].n, .string l[k].k, .int .i64 l[k].a, .int .i64 l[k].b, .bool l[k].c] := by
  unfold sws; rw [List.take_succ_eq_append_getElem h, List.flatMap_append]; rfl
theorem pms_take (l : List Pm) (k : Nat) (h : k < l.length) : pms (l.take (k + 1)) = pms (l.take k) ++ [.string l[k].n, .int .i64 l[k].s] := by
  unfold pms; rw [List.take_succ_eq_append_getElem h, List.flatMap_append]; rfl
section
variable {T0 T1 T2 TS TY : TypeId} {w : World} {A0 A1 A2 : Option Addr} {n0 n1 n2 c0 c1 c2 : Nat} {y : Yd} {k0 k1 k2 : Nat} {v0 v1 v2 v : Value} {W W' : World}
/-- After an append and a store of the new slice. -/
theorem OwI.put0 (h : OwI T0 T1 T2 TS TY w A0 A1 A2 n0 n1 n2 c0 c1 c2 y k0 k1 k2 v0 v1 v2 W) (hb : Below w.heap.size W W') (hk : ∀ k t c, Blk W k t c → v0.ownBlock ≠ some k → Blk W' k t c) (hn : W'.ownsRow w.heap.size T0 2 v (k0 + 1) (secs (y.s.take (k0 + 1)))) (e1 : T1 ≠ T0) (e2 : T2 ≠ T0) (e3 : TS ≠ T0) (e4 : TY ≠ T0) (e5 : TY ≠ T1) (e6 : TY ≠ T2) : Blk W' (w.heap.size + 1 + 1) TY #[v0, v1, v2] ∧ OwI T0 T1 T2 TS TY w A0 A1 A2 n0 n1 n2 c0 c1 c2 y (k0 + 1) k1 k2 v v1 v2 (W'.setCell ⟨w.heap.size + 1 + 1, 0, none⟩ v) := by
  have b3 := hk _ _ _ h.b3 (row_own_neW h.r0 h.b3 e4)
  have g1 : W'.ownsRow w.heap.size T1 5 v1 k1 (sws (y.w.take k1)) := row_kept h.r1 fun k c hb => (hk k _ c hb (row_own_neW h.r0 hb e1)).trans hb.symm
  have g2 : W'.ownsRow w.heap.size T2 2 v2 k2 (pms (y.p.take k2)) := row_kept h.r2 fun k c hb => (hk k _ c hb (row_own_neW h.r0 hb e2)).trans hb.symm
  refine ⟨b3, row_set hn b3 e4.symm, row_set g1 b3 e5.symm, row_set g2 b3 e6.symm, ?_, ?_, b3.set_ 0 v, ?_⟩
  · exact (hk _ _ _ h.box (row_own_neW h.r0 h.box e3)).far (by simp; omega) _
  · exact (hk _ _ _ h.b2 (row_own_neW h.r0 h.b2 e4)).far (by simp) _
  · exact (h.low.trans hb).setCell (p := ⟨w.heap.size + 1 + 1, 0, none⟩) (by simp; omega) _
theorem OwI.put1 (h : OwI T0 T1 T2 TS TY w A0 A1 A2 n0 n1 n2 c0 c1 c2 y k0 k1 k2 v0 v1 v2 W) (hb : Below w.heap.size W W') (hk : ∀ k t c, Blk W k t c → v1.ownBlock ≠ some k → Blk W' k t c) (hn : W'.ownsRow w.heap.size T1 5 v (k1 + 1) (sws (y.w.take (k1 + 1)))) (e1 : T0 ≠ T1) (e2 : T2 ≠ T1) (e3 : TS ≠ T1) (e4 : TY ≠ T1) (e5 : TY ≠ T0) (e6 : TY ≠ T2) : Blk W' (w.heap.size + 1 + 1) TY #[v0, v1, v2] ∧ OwI T0 T1 T2 TS TY w A0 A1 A2 n0 n1 n2 c0 c1 c2 y k0 (k1 + 1) k2 v0 v v2 (W'.setCell ⟨w.heap.size + 1 + 1, 1, none⟩ v) := by
  have b3 := hk _ _ _ h.b3 (row_own_neW h.r1 h.b3 e4)
  have g1 : W'.ownsRow w.heap.size T0 2 v0 k0 (secs (y.s.take k0)) := row_kept h.r0 fun k c hb => (hk k _ c hb (row_own_neW h.r1 hb e1)).trans hb.symm
  have g2 : W'.ownsRow w.heap.size T2 2 v2 k2 (pms (y.p.take k2)) := row_kept h.r2 fun k c hb => (hk k _ c hb (row_own_neW h.r1 hb e2)).trans hb.symm
  refine ⟨b3, row_set g1 b3 e5.symm, row_set hn b3 e4.symm, row_set g2 b3 e6.symm, ?_, ?_, b3.set_ 1 v, ?_⟩
  · exact (hk _ _ _ h.box (row_own_neW h.r1 h.box e3)).far (by simp; omega) _
  · exact (hk _ _ _ h.b2 (row_own_neW h.r1 h.b2 e4)).far (by simp) _
  · exact (h.low.trans hb).setCell (p := ⟨w.heap.size + 1 + 1, 1, none⟩) (by simp; omega) _
theorem OwI.put2 (h : OwI T0 T1 T2 TS TY w A0 A1 A2 n0 n1 n2 c0 c1 c2 y k0 k1 k2 v0 v1 v2 W) (hb : Below w.heap.size W W') (hk : ∀ k t c, Blk W k t c → v2.ownBlock ≠ some k → Blk W' k t c) (hn : W'.ownsRow w.heap.size T2 2 v (k2 + 1) (pms (y.p.take (k2 + 1)))) (e1 : T0 ≠ T2) (e2 : T1 ≠ T2) (e3 : TS ≠ T2) (e4 : TY ≠ T2) (e5 : TY ≠ T0) (e6 : TY ≠ T1) : Blk W' (w.heap.size + 1 + 1) TY #[v0, v1, v2] ∧ OwI T0 T1 T2 TS TY w A0 A1 A2 n0 n1 n2 c0 c1 c2 y k0 k1 (k2 + 1) v0 v1 v (W'.setCell ⟨w.heap.size + 1 + 1, 2, none⟩ v) := by
  have b3 := hk _ _ _ h.b3 (row_own_neW h.r2 h.b3 e4)
  have g1 : W'.ownsRow w.heap.size T0 2 v0 k0 (secs (y.s.take k0)) := row_kept h.r0 fun k c hb => (hk k _ c hb (row_own_neW h.r2 hb e1)).trans hb.symm
  have g2 : W'.ownsRow w.heap.size T1 5 v1 k1 (sws (y.w.take k1)) := row_kept h.r1 fun k c hb => (hk k _ c hb (row_own_neW h.r2 hb e2)).trans hb.symm
  refine ⟨b3, row_set g1 b3 e5.symm, row_set g2 b3 e6.symm, row_set hn b3 e4.symm, ?_, ?_, b3.set_ 2 v, ?_⟩
  · exact (hk _ _ _ h.box (row_own_neW h.r2 h.box e3)).far (by simp; omega) _
  · exact (hk _ _ _ h.b2 (row_own_neW h.r2 h.b2 e4)).far (by simp) _
  · exact (h.low.trans hb).setCell (p := ⟨w.heap.size + 1 + 1, 2, none⟩) (by simp; omega) _
end
set_option maxRecDepth 100000 in
set_option maxHeartbeats 4000000 in
theorem own_any (B : Nat) (A0 A1 A2 : Option Addr) (n0 n1 n2 c0 c1 c2 : Nat) (y : Yd) (w : World) (hY : YdAt w B A0 A1 A2 n0 n1 n2 y) (hB : B ≤ w.heap.size) (h0 : n0 ≤ 1000) (h1 : n1 ≤ 1000) (h2 : n2 ≤ 1000) :
    Calls Tryz.prog 20 #[.agg #[.slice A0 n0 c0, .slice A1 n1 c1, .slice A2 n2 c2]] w (OwRes 133 70 117 w y) := by
  obtain ⟨hl0, ha0⟩ := sec_at hY.hs
  obtain ⟨hl1, ha1⟩ := sw_at hY.hw
  obtain ⟨hl2, ha2⟩ := pm_at hY.hp
  have HA0 := Lib.hid ha0
  have HA1 := Lib.hid ha1
  have HA2 := Lib.hid ha2
  have HL0 := Lib.hid hl0
  have HL1 := Lib.hid hl1
  have HL2 := Lib.hid hl2
  clear ha0 ha1 ha2 hl0 hl1 hl2 hY
  go_enter Tryz.func20, Tryz.ntmps20
  go_wp2_with fail
  go_loopw [13] (fun i wr => ∃ (k : Nat) (v : Value), k ≤ n0 ∧ i = .int .i64 k ∧ OwI 133 70 117 26 41 w A0 A1 A2 n0 n1 n2 c0 c1 c2 y k 0 0 v (.slice none 0 0) (.slice none 0 0) wr) (fun i _ => n0 - (intOf i).toNat)
  case atStart => exact ⟨0, .slice none 0 0, by omega, rfl, World.ownsRow_nil _ _ _ _, World.ownsRow_nil _ _ _ _, World.ownsRow_nil _ _ _ _, bk_, bk_, bk_, bl_⟩
  case round =>
    obtain ⟨k, v, hk, rfl, hI⟩ := hrel
    have HI := Lib.hid hI
    have hsz := hI.low.size
    have cb := hI.box.cell
    have c3 := hI.b3.cell
    have f3 := hI.b3.frozen
    have l3 := hI.b3.lt
    clear hI
    by_cases hlt : k < n0
    · have hkl : k < y.s.length := by rw [HL0.out]; exact hlt
      obtain ⟨b, o, eA, hbb, z0, z1⟩ := HA0.out k hkl
      have kb : ∀ i, wr.cell? ⟨b, i, none⟩ = w.cell? ⟨b, i, none⟩ := fun i => HI.out.low.cell (p := ⟨b, i, none⟩) (by simp; omega)
      rw [← kb] at z0 z1
      clear kb
      subst eA
      have HS := Lib.hid (secs_take y.s k hkl)
      generalize y.s[k] = x at *
      obtain ⟨xn, xs⟩ := x
      dsimp only at z0 z1 HS
      have HI2 := Lib.hid (HI.out.kept (W' := wr.alloc (.cells #[.string xn, .bool xs] 66)) bl_)
      go_wp2_with (at_builtin; refine wpList_app 37 133 2 24 elemSec rfl (.tmp 18) (.tmp 20) rfl w.heap.size v k (secs (y.s.take k)) rfl HI2.out.r0 1 (by show Value.slice (some ⟨wr.heap.size + 1, 0, none⟩) 1 1 = _; simp) rfl (by intro u hu; simp at hu; rcases hu with rfl | rfl <;> rfl) (by decide) ?h3 ?h4 ?h5 ?_)
      case h3 => unfold maxLen; omega
      case h4 => omega
      case h5 => simp; omega
      intro g' cap' w' hown' hb' hk' hs'
      rw [← HS.out] at hown'
      obtain ⟨b3', hI'⟩ := HI2.out.put0 hb' hk' hown' (by decide) (by decide) (by decide) (by decide) (by decide) (by decide)
      have c3' := b3'.cell
      have f3' := b3'.frozen
      have l3' := b3'.lt
      have HI' := Lib.hid hI'
      clear hI' hk' hown' hb' b3'
      go_wp2
      go_roundw
      case rel => exact ⟨k + 1, _, by omega, by go_num, HI'.out⟩
      case measure => simp [intOf]; omega
    · obtain rfl : k = n0 := by omega
      clear hlt hk
      go_wp2_with fail
      go_loopw [27] (fun i wr => ∃ (j : Nat) (v' : Value), j ≤ n1 ∧ i = .int .i64 j ∧ OwI 133 70 117 26 41 w A0 A1 A2 k n1 n2 c0 c1 c2 y k j 0 v v' (.slice none 0 0) wr) (fun i _ => n1 - (intOf i).toNat)
      case atStart => exact ⟨0, .slice none 0 0, by omega, rfl, HI.out⟩
      case round =>
        clear cb c3 f3 l3 hsz HI
        obtain ⟨j, v', hk, rfl, hI⟩ := hrel
        have HI := Lib.hid hI
        have hsz := hI.low.size
        have cb := hI.box.cell
        have c3 := hI.b3.cell
        have f3 := hI.b3.frozen
        have l3 := hI.b3.lt
        clear hI
        by_cases hlt : j < n1
        · have hkl : j < y.w.length := by rw [HL1.out]; exact hlt
          obtain ⟨b, o, eA, hbb, z0, z1, z2, z3, z4⟩ := HA1.out j hkl
          have kb : ∀ i, wr.cell? ⟨b, i, none⟩ = w.cell? ⟨b, i, none⟩ := fun i => HI.out.low.cell (p := ⟨b, i, none⟩) (by simp; omega)
          rw [← kb] at z0 z1 z2 z3 z4
          clear kb
          subst eA
          have HS := Lib.hid (sws_take y.w j hkl)
          generalize y.w[j] = x at *
          obtain ⟨xn, xk, xa, xb, xc⟩ := x
          dsimp only at z0 z1 z2 z3 z4 HS
          have HI2 := Lib.hid (HI.out.kept (W' := wr.alloc (.cells #[.string xn, .string xk, .int .i64 xa, .int .i64 xb, .bool xc] 68)) bl_)
          go_wp2_with (at_builtin; refine wpList_app 38 70 5 56 elemSw rfl (.tmp 32) (.tmp 34) rfl w.heap.size v' j (sws (y.w.take j)) rfl HI2.out.r1 1 (by show Value.slice (some ⟨wr.heap.size + 1, 0, none⟩) 1 1 = _; simp) rfl (by intro u hu; simp at hu; rcases hu with rfl | rfl | rfl | rfl | rfl <;> rfl) (by decide) ?h3 ?h4 ?h5 ?_)
          case h3 => unfold maxLen; omega
          case h4 => omega
          case h5 => simp; omega
          intro g' cap' w' hown' hb' hk' hs'
          rw [← HS.out] at hown'
          obtain ⟨b3', hI'⟩ := HI2.out.put1 hb' hk' hown' (by decide) (by decide) (by decide) (by decide) (by decide) (by decide)
          have c3' := b3'.cell
          have f3' := b3'.frozen
          have l3' := b3'.lt
          have HI' := Lib.hid hI'
          clear hI' hk' hown' hb' b3'
          go_wp2
          go_roundw
          case rel => exact ⟨j + 1, _, by omega, by go_num, HI'.out⟩
          case measure => simp [intOf]; omega
        · obtain rfl : j = n1 := by omega
          clear hlt hk
          go_wp2_with fail
          go_loopw [41] (fun i wr => ∃ (q : Nat) (v'' : Value), q ≤ n2 ∧ i = .int .i64 q ∧ OwI 133 70 117 26 41 w A0 A1 A2 k j n2 c0 c1 c2 y k j q v v' v'' wr) (fun i _ => n2 - (intOf i).toNat)
          case atStart => exact ⟨0, .slice none 0 0, by omega, rfl, HI.out⟩
          case round =>
            clear cb c3 f3 l3 hsz HI
            obtain ⟨q, v'', hk, rfl, hI⟩ := hrel
            have HI := Lib.hid hI
            have hsz := hI.low.size
            have cb := hI.box.cell
            have c3 := hI.b3.cell
            have f3 := hI.b3.frozen
            have l3 := hI.b3.lt
            have c2 := hI.b2.cell
            have f2 := hI.b2.frozen
            have l2 := hI.b2.lt
            clear hI
            by_cases hlt : q < n2
            · have hkl : q < y.p.length := by rw [HL2.out]; exact hlt
              obtain ⟨b, o, eA, hbb, z0, z1⟩ := HA2.out q hkl
              have kb : ∀ i, wr.cell? ⟨b, i, none⟩ = w.cell? ⟨b, i, none⟩ := fun i => HI.out.low.cell (p := ⟨b, i, none⟩) (by simp; omega)
              rw [← kb] at z0 z1
              clear kb
              subst eA
              have HS := Lib.hid (pms_take y.p q hkl)
              generalize y.p[q] = x at *
              obtain ⟨xn, xs⟩ := x
              dsimp only at z0 z1 HS
              have HI2 := Lib.hid (HI.out.kept (W' := wr.alloc (.cells #[.string xn, .int .i64 xs] 72)) bl_)
              go_wp2_with (at_builtin; refine wpList_app 39 117 2 24 elemPm rfl (.tmp 46) (.tmp 48) rfl w.heap.size v'' q (pms (y.p.take q)) rfl HI2.out.r2 1 (by show Value.slice (some ⟨wr.heap.size + 1, 0, none⟩) 1 1 = _; simp) rfl (by intro u hu; simp at hu; rcases hu with rfl | rfl <;> rfl) (by decide) ?h3 ?h4 ?h5 ?_)
              case h3 => unfold maxLen; omega
              case h4 => omega
              case h5 => simp; omega
              intro g' cap' w' hown' hb' hk' hs'
              rw [← HS.out] at hown'
              obtain ⟨b3', hI'⟩ := HI2.out.put2 hb' hk' hown' (by decide) (by decide) (by decide) (by decide) (by decide) (by decide)
              have c3' := b3'.cell
              have f3' := b3'.frozen
              have l3' := b3'.lt
              have HI' := Lib.hid hI'
              clear hI' hk' hown' hb' b3'
              go_wp2
              go_roundw
              case rel => exact ⟨q + 1, _, by omega, by go_num, HI'.out⟩
              case measure => simp [intOf]; omega
            · obtain rfl : q = n2 := by omega
              have hI := HI.out
              have hbl6 := ((hI.low.setCell (p := ⟨w.heap.size + 1, 0, none⟩) (by simp) v).setCell (p := ⟨w.heap.size + 1, 1, none⟩) (by simp) v').setCell (p := ⟨w.heap.size + 1, 2, none⟩) (by simp) v''
              have s0 := hI.b2.set_ 0 v
              have s1 := s0.set_ 1 v'
              have s2 := s1.set_ 2 v''
              have ck := s2.cell
              have r0 := row_set (i := 2) (u := v'') (row_set (i := 1) (u := v') (row_set (i := 0) (u := v) hI.r0 hI.b2 (by decide)) s0 (by decide)) s1 (by decide)
              have r1 := row_set (i := 2) (u := v'') (row_set (i := 1) (u := v') (row_set (i := 0) (u := v) hI.r1 hI.b2 (by decide)) s0 (by decide)) s1 (by decide)
              have r2 := row_set (i := 2) (u := v'') (row_set (i := 1) (u := v') (row_set (i := 0) (u := v) hI.r2 hI.b2 (by decide)) s0 (by decide)) s1 (by decide)
              obtain rfl := HL0.out
              obtain rfl := HL1.out
              obtain rfl := HL2.out
              rw [List.take_of_length_le (Nat.le_refl _)] at r0 r1 r2
              have HO6 := Lib.hid (And.intro r0 (And.intro r1 (And.intro r2 hbl6)))
              clear r0 r1 r2 hbl6 s0 s1 s2 hI
              obtain ⟨D0, d0, rfl, _⟩ := own_form HO6.out.1
              obtain ⟨D1, d1, rfl, _⟩ := own_form HO6.out.2.1
              obtain ⟨D2, d2, rfl, _⟩ := own_form HO6.out.2.2.1
              go_wp2_with fail
              refine bodyPost_ret (v := .agg #[.slice D0 y.s.length d0, .slice D1 y.w.length d1, .slice D2 y.p.length d2]) (by simp [results, Tryz.results20, go_sem, ck]) rfl ?_
              exact ⟨D0, D1, D2, d0, d1, d2, rfl, ⟨HO6.out.1, HO6.out.2.1, HO6.out.2.2.1⟩, HO6.out.2.2.2⟩
set_option maxRecDepth 100000 in
set_option maxHeartbeats 4000000 in
theorem told_any (B : Nat) (A0 A1 A2 : Option Addr) (n0 n1 n2 c0 c1 c2 : Nat) (y : Yd) (w : World) (hY : YdAt w B A0 A1 A2 n0 n1 n2 y) (hB : B ≤ w.heap.size) (h0 : n0 ≤ 1000) (h1 : n1 ≤ 1000) (h2 : n2 ≤ 1000) :
    Calls Tryz.prog 51 #[.agg #[.slice A0 n0 c0, .slice A1 n1 c1, .slice A2 n2 c2]] w (OwRes 66 68 72 w y) := by
  obtain ⟨hl0, ha0⟩ := sec_at hY.hs
  obtain ⟨hl1, ha1⟩ := sw_at hY.hw
  obtain ⟨hl2, ha2⟩ := pm_at hY.hp
  have HA0 := Lib.hid ha0
  have HA1 := Lib.hid ha1
  have HA2 := Lib.hid ha2
  have HL0 := Lib.hid hl0
  have HL1 := Lib.hid hl1
  have HL2 := Lib.hid hl2
  clear ha0 ha1 ha2 hl0 hl1 hl2 hY
  go_enter Tryz.func51, Tryz.ntmps51
  go_wp2_with fail
  go_loopw [13] (fun i wr => ∃ (k : Nat) (v : Value), k ≤ n0 ∧ i = .int .i64 k ∧ OwI 66 68 72 41 26 w A0 A1 A2 n0 n1 n2 c0 c1 c2 y k 0 0 v (.slice none 0 0) (.slice none 0 0) wr) (fun i _ => n0 - (intOf i).toNat)
  case atStart => exact ⟨0, .slice none 0 0, by omega, rfl, World.ownsRow_nil _ _ _ _, World.ownsRow_nil _ _ _ _, World.ownsRow_nil _ _ _ _, bk_, bk_, bk_, bl_⟩
  case round =>
    obtain ⟨k, v, hk, rfl, hI⟩ := hrel
    have HI := Lib.hid hI
    have hsz := hI.low.size
    have cb := hI.box.cell
    have c3 := hI.b3.cell
    have f3 := hI.b3.frozen
    have l3 := hI.b3.lt
    clear hI
    by_cases hlt : k < n0
    · have hkl : k < y.s.length := by rw [HL0.out]; exact hlt
      obtain ⟨b, o, eA, hbb, z0, z1⟩ := HA0.out k hkl
      have kb : ∀ i, wr.cell? ⟨b, i, none⟩ = w.cell? ⟨b, i, none⟩ := fun i => HI.out.low.cell (p := ⟨b, i, none⟩) (by simp; omega)
      rw [← kb] at z0 z1
      clear kb
      subst eA
      have HS := Lib.hid (secs_take y.s k hkl)
      generalize y.s[k] = x at *
      obtain ⟨xn, xs⟩ := x
      dsimp only at z0 z1 HS
      have HI2 := Lib.hid (HI.out.kept (W' := wr.alloc (.cells #[.string xn, .bool xs] 133)) bl_)
      go_wp2_with (at_builtin; refine wpList_app 22 66 2 24 elemSecR rfl (.tmp 18) (.tmp 20) rfl w.heap.size v k (secs (y.s.take k)) rfl HI2.out.r0 1 (by show Value.slice (some ⟨wr.heap.size + 1, 0, none⟩) 1 1 = _; simp) rfl (by intro u hu; simp at hu; rcases hu with rfl | rfl <;> rfl) (by decide) ?h3 ?h4 ?h5 ?_)
      case h3 => unfold maxLen; omega
      case h4 => omega
      case h5 => simp; omega
      intro g' cap' w' hown' hb' hk' hs'
      rw [← HS.out] at hown'
      obtain ⟨b3', hI'⟩ := HI2.out.put0 hb' hk' hown' (by decide) (by decide) (by decide) (by decide) (by decide) (by decide)
      have c3' := b3'.cell
      have f3' := b3'.frozen
      have l3' := b3'.lt
      have HI' := Lib.hid hI'
      clear hI' hk' hown' hb' b3'
      go_wp2
      go_roundw
      case rel => exact ⟨k + 1, _, by omega, by go_num, HI'.out⟩
      case measure => simp [intOf]; omega
    · obtain rfl : k = n0 := by omega
      clear hlt hk
      go_wp2_with fail
      go_loopw [27] (fun i wr => ∃ (j : Nat) (v' : Value), j ≤ n1 ∧ i = .int .i64 j ∧ OwI 66 68 72 41 26 w A0 A1 A2 k n1 n2 c0 c1 c2 y k j 0 v v' (.slice none 0 0) wr) (fun i _ => n1 - (intOf i).toNat)
      case atStart => exact ⟨0, .slice none 0 0, by omega, rfl, HI.out⟩
      case round =>
        clear cb c3 f3 l3 hsz HI
        obtain ⟨j, v', hk, rfl, hI⟩ := hrel
        have HI := Lib.hid hI
        have hsz := hI.low.size
        have cb := hI.box.cell
        have c3 := hI.b3.cell
        have f3 := hI.b3.frozen
        have l3 := hI.b3.lt
        clear hI
        by_cases hlt : j < n1
        · have hkl : j < y.w.length := by rw [HL1.out]; exact hlt
          obtain ⟨b, o, eA, hbb, z0, z1, z2, z3, z4⟩ := HA1.out j hkl
          have kb : ∀ i, wr.cell? ⟨b, i, none⟩ = w.cell? ⟨b, i, none⟩ := fun i => HI.out.low.cell (p := ⟨b, i, none⟩) (by simp; omega)
          rw [← kb] at z0 z1 z2 z3 z4
          clear kb
          subst eA
          have HS := Lib.hid (sws_take y.w j hkl)
          generalize y.w[j] = x at *
          obtain ⟨xn, xk, xa, xb, xc⟩ := x
          dsimp only at z0 z1 z2 z3 z4 HS
          have HI2 := Lib.hid (HI.out.kept (W' := wr.alloc (.cells #[.string xn, .string xk, .int .i64 xa, .int .i64 xb, .bool xc] 70)) bl_)
          go_wp2_with (at_builtin; refine wpList_app 23 68 5 56 elemSwR rfl (.tmp 32) (.tmp 34) rfl w.heap.size v' j (sws (y.w.take j)) rfl HI2.out.r1 1 (by show Value.slice (some ⟨wr.heap.size + 1, 0, none⟩) 1 1 = _; simp) rfl (by intro u hu; simp at hu; rcases hu with rfl | rfl | rfl | rfl | rfl <;> rfl) (by decide) ?h3 ?h4 ?h5 ?_)
          case h3 => unfold maxLen; omega
          case h4 => omega
          case h5 => simp; omega
          intro g' cap' w' hown' hb' hk' hs'
          rw [← HS.out] at hown'
          obtain ⟨b3', hI'⟩ := HI2.out.put1 hb' hk' hown' (by decide) (by decide) (by decide) (by decide) (by decide) (by decide)
          have c3' := b3'.cell
          have f3' := b3'.frozen
          have l3' := b3'.lt
          have HI' := Lib.hid hI'
          clear hI' hk' hown' hb' b3'
          go_wp2
          go_roundw
          case rel => exact ⟨j + 1, _, by omega, by go_num, HI'.out⟩
          case measure => simp [intOf]; omega
        · obtain rfl : j = n1 := by omega
          clear hlt hk
          go_wp2_with fail
          go_loopw [41] (fun i wr => ∃ (q : Nat) (v'' : Value), q ≤ n2 ∧ i = .int .i64 q ∧ OwI 66 68 72 41 26 w A0 A1 A2 k j n2 c0 c1 c2 y k j q v v' v'' wr) (fun i _ => n2 - (intOf i).toNat)
          case atStart => exact ⟨0, .slice none 0 0, by omega, rfl, HI.out⟩
          case round =>
            clear cb c3 f3 l3 hsz HI
            obtain ⟨q, v'', hk, rfl, hI⟩ := hrel
            have HI := Lib.hid hI
            have hsz := hI.low.size
            have cb := hI.box.cell
            have c3 := hI.b3.cell
            have f3 := hI.b3.frozen
            have l3 := hI.b3.lt
            have c2 := hI.b2.cell
            have f2 := hI.b2.frozen
            have l2 := hI.b2.lt
            clear hI
            by_cases hlt : q < n2
            · have hkl : q < y.p.length := by rw [HL2.out]; exact hlt
              obtain ⟨b, o, eA, hbb, z0, z1⟩ := HA2.out q hkl
              have kb : ∀ i, wr.cell? ⟨b, i, none⟩ = w.cell? ⟨b, i, none⟩ := fun i => HI.out.low.cell (p := ⟨b, i, none⟩) (by simp; omega)
              rw [← kb] at z0 z1
              clear kb
              subst eA
              have HS := Lib.hid (pms_take y.p q hkl)
              generalize y.p[q] = x at *
              obtain ⟨xn, xs⟩ := x
              dsimp only at z0 z1 HS
              have HI2 := Lib.hid (HI.out.kept (W' := wr.alloc (.cells #[.string xn, .int .i64 xs] 117)) bl_)
              go_wp2_with (at_builtin; refine wpList_app 24 72 2 24 elemPmR rfl (.tmp 46) (.tmp 48) rfl w.heap.size v'' q (pms (y.p.take q)) rfl HI2.out.r2 1 (by show Value.slice (some ⟨wr.heap.size + 1, 0, none⟩) 1 1 = _; simp) rfl (by intro u hu; simp at hu; rcases hu with rfl | rfl <;> rfl) (by decide) ?h3 ?h4 ?h5 ?_)
              case h3 => unfold maxLen; omega
              case h4 => omega
              case h5 => simp; omega
              intro g' cap' w' hown' hb' hk' hs'
              rw [← HS.out] at hown'
              obtain ⟨b3', hI'⟩ := HI2.out.put2 hb' hk' hown' (by decide) (by decide) (by decide) (by decide) (by decide) (by decide)
              have c3' := b3'.cell
              have f3' := b3'.frozen
              have l3' := b3'.lt
              have HI' := Lib.hid hI'
              clear hI' hk' hown' hb' b3'
              go_wp2
              go_roundw
              case rel => exact ⟨q + 1, _, by omega, by go_num, HI'.out⟩
              case measure => simp [intOf]; omega
            · obtain rfl : q = n2 := by omega
              have hI := HI.out
              have hbl6 := ((hI.low.setCell (p := ⟨w.heap.size + 1, 0, none⟩) (by simp) v).setCell (p := ⟨w.heap.size + 1, 1, none⟩) (by simp) v').setCell (p := ⟨w.heap.size + 1, 2, none⟩) (by simp) v''
              have s0 := hI.b2.set_ 0 v
              have s1 := s0.set_ 1 v'
              have s2 := s1.set_ 2 v''
              have ck := s2.cell
              have r0 := row_set (i := 2) (u := v'') (row_set (i := 1) (u := v') (row_set (i := 0) (u := v) hI.r0 hI.b2 (by decide)) s0 (by decide)) s1 (by decide)
              have r1 := row_set (i := 2) (u := v'') (row_set (i := 1) (u := v') (row_set (i := 0) (u := v) hI.r1 hI.b2 (by decide)) s0 (by decide)) s1 (by decide)
              have r2 := row_set (i := 2) (u := v'') (row_set (i := 1) (u := v') (row_set (i := 0) (u := v) hI.r2 hI.b2 (by decide)) s0 (by decide)) s1 (by decide)
              obtain rfl := HL0.out
              obtain rfl := HL1.out
              obtain rfl := HL2.out
              rw [List.take_of_length_le (Nat.le_refl _)] at r0 r1 r2
              have HO6 := Lib.hid (And.intro r0 (And.intro r1 (And.intro r2 hbl6)))
              clear r0 r1 r2 hbl6 s0 s1 s2 hI
              obtain ⟨D0, d0, rfl, _⟩ := own_form HO6.out.1
              obtain ⟨D1, d1, rfl, _⟩ := own_form HO6.out.2.1
              obtain ⟨D2, d2, rfl, _⟩ := own_form HO6.out.2.2.1
              go_wp2_with fail
              refine bodyPost_ret (v := .agg #[.slice D0 y.s.length d0, .slice D1 y.w.length d1, .slice D2 y.p.length d2]) (by simp [results, Tryz.results51, go_sem, ck]) rfl ?_
              exact ⟨D0, D1, D2, d0, d1, d2, rfl, ⟨HO6.out.1, HO6.out.2.1, HO6.out.2.2.1⟩, HO6.out.2.2.2⟩
end Go.Proofs.YtphlojgmfkgeiaaGreatDoor
/- The yard of the examples. -/
namespace Go.Proofs.YtphlojgmfkgeiaaGreatDoor
open Go.RowKit Go.Sort Go.Shelf
set_option linter.unusedSimpArgs false
set_option linter.unusedVariables false
attribute [local go_sem] cell_if frozen_if grow_cell
def shownY (a b c : Bool) : Yd := ⟨[⟨⟨#[103]⟩, true⟩, ⟨⟨#[109]⟩, false⟩, ⟨⟨#[112]⟩, false⟩], [⟨⟨#[98]⟩, ⟨#[98, 114, 101, 97, 107, 101, 114]⟩, 0, 1, a⟩, ⟨⟨#[105]⟩, ⟨#[105, 115, 111, 108, 97, 116, 111, 114]⟩, 1, 2, b⟩, ⟨⟨#[101]⟩, ⟨#[101, 97, 114, 116, 104]⟩, 2, -1, c⟩], []⟩
theorem shown_row {w : World} (a b c : Bool) (cs : Array Value) (t : TypeId) :
    OwRow 133 70 117 w.heap.size (shownY a b c) (some ⟨w.heap.size + 1, 0, none⟩) (some ⟨w.heap.size + 1 + 1, 0, none⟩) none 3 3 0 (((w.alloc (.cells cs t)).alloc (.cells #[.string ⟨#[103]⟩, .bool true, .string ⟨#[109]⟩, .bool false, .string ⟨#[112]⟩, .bool false] 133)).alloc (.cells #[.string ⟨#[98]⟩, .string ⟨#[98, 114, 101, 97, 107, 101, 114]⟩, .int .i64 0, .int .i64 1, .bool a, .string ⟨#[105]⟩, .string ⟨#[105, 115, 111, 108, 97, 116, 111, 114]⟩, .int .i64 1, .int .i64 2, .bool b, .string ⟨#[101]⟩, .string ⟨#[101, 97, 114, 116, 104]⟩, .int .i64 2, .int .i64 (-1), .bool c] 70)) := by
  have o1 := (Own.new (w.alloc (.cells cs t)) w.heap.size 133 2 3 #[.string ⟨#[103]⟩, .bool true, .string ⟨#[109]⟩, .bool false, .string ⟨#[112]⟩, .bool false] (by simp) rfl (by decide)).alloc (.cells #[.string ⟨#[98]⟩, .string ⟨#[98, 114, 101, 97, 107, 101, 114]⟩, .int .i64 0, .int .i64 1, .bool a, .string ⟨#[105]⟩, .string ⟨#[105, 115, 111, 108, 97, 116, 111, 114]⟩, .int .i64 1, .int .i64 2, .bool b, .string ⟨#[101]⟩, .string ⟨#[101, 97, 114, 116, 104]⟩, .int .i64 2, .int .i64 (-1), .bool c] 70)
  have o2 := Own.new ((w.alloc (.cells cs t)).alloc (.cells #[.string ⟨#[103]⟩, .bool true, .string ⟨#[109]⟩, .bool false, .string ⟨#[112]⟩, .bool false] 133)) w.heap.size 70 5 3 #[.string ⟨#[98]⟩, .string ⟨#[98, 114, 101, 97, 107, 101, 114]⟩, .int .i64 0, .int .i64 1, .bool a, .string ⟨#[105]⟩, .string ⟨#[105, 115, 111, 108, 97, 116, 111, 114]⟩, .int .i64 1, .int .i64 2, .bool b, .string ⟨#[101]⟩, .string ⟨#[101, 97, 114, 116, 104]⟩, .int .i64 2, .int .i64 (-1), .bool c] (by simp; omega) rfl (by decide)
  rw [World.size_alloc] at o1
  rw [World.size_alloc, World.size_alloc] at o2
  exact ⟨o1, o2, World.ownsRow_nil _ _ _ _⟩
theorem shown3_any (w : World) : Calls Tryz.prog 78 #[.int .i64 3] w (OwRes 133 70 117 w (shownY true true false)) := by
  have e1 : bits BinOp.and IntKind.i64 3 1 = 1 := by decide
  have e2 : bits BinOp.and IntKind.i64 3 2 = 2 := by decide
  have e3 : bits BinOp.and IntKind.i64 3 4 = 0 := by decide
  go_enter Tryz.func78, Tryz.ntmps78
  go_wp2_with fail
  refine bodyPost_ret (v := .agg #[.slice (some ⟨w.heap.size + 1, 0, none⟩) 3 3, .slice (some ⟨w.heap.size + 1 + 1, 0, none⟩) 3 3, .slice none 0 0]) (by simp [results, Tryz.results78, go_sem]) rfl ?_
  exact ⟨_, _, _, _, _, _, rfl, shown_row _ _ _ _ _, bl_⟩
theorem shown2_any (w : World) : Calls Tryz.prog 78 #[.int .i64 2] w (OwRes 133 70 117 w (shownY false true false)) := by
  have e1 : bits BinOp.and IntKind.i64 2 1 = 0 := by decide
  have e2 : bits BinOp.and IntKind.i64 2 2 = 2 := by decide
  have e3 : bits BinOp.and IntKind.i64 2 4 = 0 := by decide
  go_enter Tryz.func78, Tryz.ntmps78
  go_wp2_with fail
  refine bodyPost_ret (v := .agg #[.slice (some ⟨w.heap.size + 1, 0, none⟩) 3 3, .slice (some ⟨w.heap.size + 1 + 1, 0, none⟩) 3 3, .slice none 0 0]) (by simp [results, Tryz.results78, go_sem]) rfl ?_
  exact ⟨_, _, _, _, _, _, rfl, shown_row _ _ _ _ _, bl_⟩
theorem shown4_any (w : World) : Calls Tryz.prog 78 #[.int .i64 4] w (OwRes 133 70 117 w (shownY false false true)) := by
  have e1 : bits BinOp.and IntKind.i64 4 1 = 0 := by decide
  have e2 : bits BinOp.and IntKind.i64 4 2 = 0 := by decide
  have e3 : bits BinOp.and IntKind.i64 4 4 = 4 := by decide
  go_enter Tryz.func78, Tryz.ntmps78
  go_wp2_with fail
  refine bodyPost_ret (v := .agg #[.slice (some ⟨w.heap.size + 1, 0, none⟩) 3 3, .slice (some ⟨w.heap.size + 1 + 1, 0, none⟩) 3 3, .slice none 0 0]) (by simp [results, Tryz.results78, go_sem]) rfl ?_
  exact ⟨_, _, _, _, _, _, rfl, shown_row _ _ _ _ _, bl_⟩
end Go.Proofs.YtphlojgmfkgeiaaGreatDoor
/- Grant. -/
namespace Go.Proofs.YtphlojgmfkgeiaaGreatDoor
open Go.RowKit Go.Sort Go.Shelf
set_option linter.unusedSimpArgs false
set_option linter.unusedVariables false
attribute [local go_sem] cell_if frozen_if grow_cell
theorem pms_snoc (l : List Pm) (x : Pm) : pms (l ++ [x]) = pms l ++ [.string x.n, .int .i64 x.s] := by simp [pms, Pm.cells]
theorem OwnYd.app {base : Nat} {y : Yd} {v0 v2 v' : Value} {g : Nat} {w w' : World} {x : Pm} (h : OwnYd base y v0 v2 g w) (hk : ∀ k t c, Blk w k t c → v2.ownBlock ≠ some k → Blk w' k t c) (hn : w'.ownsRow base 117 2 v' (y.p.length + 1) (pms y.p ++ [.string x.n, .int .i64 x.s])) : OwnYd base { y with p := y.p ++ [x] } v0 v' g w' := by
  refine ⟨row_kept h.1 fun k c hb => ?_, hk _ _ _ h.2.1 (row_own_neW h.2.2.2 h.2.1 (by decide)), h.2.2.1, ?_⟩
  · exact (hk k _ c hb (row_own_neW h.2.2.2 hb (by decide))).trans hb.symm
  · show w'.ownsRow base _ 2 v' (y.p ++ [x]).length (pms (y.p ++ [x]))
    rw [pms_snoc, List.length_append]
    exact hn
def gr1E (y : Yd) (nm : ByteArray) : Int := firstE [yardE y, firstE [nameE nm, whenE (hasW (y.p.map Pm.n) nm) 9]]
def gr2E (y : Yd) (sc : ByteArray) : Int := firstE [whenE (!secB y (secAtB y sc)) 21, whenE (decide (8 ≤ (y.p.length : Int))) 5]
/-- The error of a grant. -/
def grantE (y : Yd) (nm sc : ByteArray) : Int := or0 (gr1E y nm) (or0 (whenE (decide (secAtB y sc < 0)) 10) (gr2E y sc))
def grantY (y : Yd) (nm sc : ByteArray) : Yd := { y with p := y.p ++ [⟨nm, secAtB y sc⟩] }
theorem first2_zeroV {a b : Int} (h : firstE [a, b] = 0) : a = 0 ∧ b = 0 := by
  rw [firstE_cons, firstE_cons, firstE_nil] at h
  obtain ⟨h1, h2⟩ := or0_zero h
  exact ⟨h1, (or0_zero h2).1⟩
set_option maxRecDepth 100000 in
set_option maxHeartbeats 2000000 in
theorem Grant_any (B : Nat) (A0 A1 A2 : Option Addr) (n0 n1 n2 c0 c1 c2 : Nat) (y : Yd) (w : World) (hY : YdAt w B A0 A1 A2 n0 n1 n2 y) (hB : B ≤ w.heap.size) (hT : Tabs w) (hF : Fits y) (nm sc : ByteArray) (hnm : nm.size ≤ maxLen) (hsc : sc.size ≤ maxLen) :
    Calls Tryz.prog 59 #[.agg #[.slice A0 n0 c0, .slice A1 n1 c1, .slice A2 n2 c2], .string nm, .string sc] w (YdERes w (grantE y nm sc) (grantY y nm sc)) := by
  have hl0 := (sec_at hY.hs).1
  have hl1 := (sw_at hY.hw).1
  have hl2 := (pm_at hY.hp).1
  have H1 := Lib.hid (fun W (hW : Below w.heap.size w W) => CheckYard_any B A0 A1 A2 n0 n1 n2 c0 c1 c2 y W (hY.below (hW.mono hB)) (by have := hW.size; omega) (hT.kept hW) hF)
  have H2 := Lib.hid (fun W (hW : Below w.heap.size w W) => mapPm_any B A2 n2 c2 y.p W (hY.hp.below (hW.mono hB)) (by have := hW.size; omega) (by have := hF.p9; omega))
  have hp9 := Lib.hid hF.p9
  have HL0 := Lib.hid hl0
  have HL1 := Lib.hid hl1
  have HL2 := Lib.hid hl2
  clear hl0 hl1 hl2
  cases he : (gr1E y nm != 0) with
  | true =>
    have HE := Lib.hid (show gr1E y nm ≠ 0 by simpa using he)
    have HM : Hid (grantE y nm sc = gr1E y nm) := by show _ = _; unfold grantE; rw [or0_neg HE.out]
    rw [HM.out]
    have HEQ : Hid (firstE [yardE y, firstE [nameE nm, whenE (hasW (y.p.map Pm.n) nm) 9]] = gr1E y nm) := Lib.hid rfl
    clear hY hT hF HM
    have HC := Lib.hid (fun W B' A' n' c' (hr : Reads W B' 1 A' n' ((y.p.map Pm.n).map .string)) hB' hn' => checkName_any nm B' A' n' c' (y.p.map Pm.n) W hnm hr hB' hn')
    generalize firstE [nameE nm, whenE (hasW (y.p.map Pm.n) nm) 9] = a2 at *
    generalize yardE y = a1 at *
    generalize gr1E y nm = ee at *
    go_enter Tryz.func59, Tryz.ntmps59
    go_wp2_with fail
    (refine wp_region_calm [] [0, 1, 2, 3, 4] 5 (by kernel_rfl) rfl (by kernel_rfl) (by kernel_rfl) (by kernel_rfl) ?_; simp only [pickB, List.filterMap_cons, List.filterMap_nil, List.getElem?_toArray, List.getElem?_cons_zero, List.getElem?_cons_succ]; (repeat (first | ((first | (with_reducible refine quietL_plain rfl (fun K hK => ?_)) | (with_reducible refine quietL_want (by with_unfolding_all rfl) (fun K hK => ?_))); (apply Exists.intro; refine ⟨fun wx hx => ?_, ?_⟩; (· (have hcx := ifs_ex hx); simp [go_sem, *, ↓IntWalk.iteOmega] <;> (first | rfl | exact ⟨rfl, rfl⟩ | (have hbx := Ex.below hx; exact calls_B (H1.out _ bl_)))); (simp only [Act.put, List.setIfInBounds_toArray, List.set_cons_zero, List.set_cons_succ]; refine hK _ ?_; clear hK K))) | ((with_reducible refine quietL_skip (by with_unfolding_all rfl) ?_); simp only [Act.put, List.setIfInBounds_toArray, List.set_cons_zero, List.set_cons_succ]))); refine quietL_nil ?_)
    (refine anyB_one (i := 5) (by kernel_rfl) rfl rfl ?_; intro wa hba K hK; obtain ⟨hca, hfa⟩ := ifs_of hba; have hsa := hba.size; (try simp at hsa); go_wp2_with fail)
    refine (H2.out _ bl_).mono ?_
    rintro e wb ⟨A', cap', rfl, hr', hc1, hc2', hbb⟩
    have hsb := hbb.size
    rw [List.length_map] at hr'
    have HR' := Lib.hid hr'
    clear hr'
    obtain ⟨hcb, hfb⟩ := ifs_of hbb; have hsb := hbb.size; (try simp at hsb)
    (go_wp2; refine ⟨xs_, ?_⟩)
    (refine anyB_one (i := 6) (by kernel_rfl) rfl rfl ?_; intro wc hbc K hK; obtain ⟨hcc, hfc⟩ := ifs_of hbc; have hsc := hbc.size; (try simp at hsc); go_wp2_with fail)
    with_reducible refine (HC.out _ wb.heap.size _ _ _ (HR'.out.below (by assumption)) (by assumption) (by have := hp9.out; unfold maxLen; omega)).mono ?_
    (rintro e wd ⟨rfl, hbd⟩; have hsd := hbd.size; (try simp at hsd))
    obtain ⟨hcd, hfd⟩ := ifs_of hbd; have hsd := hbd.size; (try simp at hsd)
    (go_wp2; refine ⟨xs_, ?_⟩)
    (refine anyB_one (i := 7) (by kernel_rfl) rfl rfl ?_; intro w2 hb2 K hK; obtain ⟨hc2, hf2⟩ := ifs_of hb2; have hs2 := hb2.size; (try simp at hs2); go_wp2; refine ⟨xs_, ?_⟩)
    (refine anyB_one (i := 8) (by kernel_rfl) rfl rfl ?_; intro w3 hb3 K hK; obtain ⟨hc3, hf3⟩ := ifs_of hb3; have hs3 := hb3.size; (try simp at hs3); go_wp2_with fail; refine (pfirst_any (w2.heap.size + 1) _ 2 2 [a1, a2] _ ((by simpa using Reads.new (size := 1) w2 (([a1, a2]).map (.int .i64)).toArray 34 2 rfl : Reads (w2.alloc (.cells (([a1, a2]).map (.int .i64)).toArray 34)) (w2.heap.size + 1) 1 (some ⟨w2.heap.size, 0, none⟩) 2 (([a1, a2]).map (.int .i64))).below (hb3.mono (by simp))) (by unfold maxLen; decide)).mono ?_; rintro e w3' ⟨rfl, rfl⟩; go_wp2; refine ⟨xs_, ?_⟩)
    rw [HEQ.out]
    (refine anyB_one (i := 9) (by kernel_rfl) rfl rfl ?_; intro w4 hb4 K hK; obtain ⟨hc4, hf4⟩ := ifs_of hb4; have hs4 := hb4.size; (try simp at hs4); go_wp2; refine ⟨xs_, ?_⟩)
    (refine anyB_end (by kernel_rfl) ?_; intro w5 hb5; obtain ⟨hc5, hf5⟩ := ifs_of hb5; have hs5 := hb5.size; (try simp at hs5); simp only [Calm]; go_wp2_with fail)
    refine bodyPost_ret (v := .tuple #[zeroY, .int .i64 ee]) ?_ rfl (Or.inr ⟨HE.out, rfl, bl_⟩)
    have ck := (bk_ : Blk w5 (w.heap.size + 1) 41 #[.slice none 0 0, .slice none 0 0, .slice none 0 0])
    have ck := (((ck.set_ 0 (.slice none 0 0)).set_ 1 (.slice none 0 0)).set_ 2 (.slice none 0 0)).cell
    simp [results, Tryz.results59, go_sem, zeroY, ck]
  | false =>
    have HE := Lib.hid (show gr1E y nm = 0 by simpa using he)
    have hee := HE.out
    unfold gr1E at hee
    obtain ⟨k1, k2⟩ := first2_zeroV hee
    have hP := (yard_ok k1).1
    have HM : Hid (grantE y nm sc = or0 (whenE (decide (secAtB y sc < 0)) 10) (gr2E y sc)) := by show _ = _; unfold grantE; rw [or0_pos HE.out]
    rw [HM.out]
    have HS := Lib.hid (fun W (hW : Below w.heap.size w W) => section_any B A0 A1 A2 n0 n1 n2 c0 c1 c2 y sc W (hY.below (hW.mono hB)) (by have := hW.size; omega) (by have := hF.s9; have := HL0.out; omega) hF.sn hsc)
    have HC := Lib.hid (fun W B' A' n' c' (hr : Reads W B' 1 A' n' ((y.p.map Pm.n).map .string)) hB' hn' => checkName_any nm B' A' n' c' (y.p.map Pm.n) W hnm hr hB' hn')
    rw [k1] at H1
    rw [k2] at HC
    cases hsi : decide (secAtB y sc < 0) with
    | true =>
      have HZ : Hid (or0 (whenE true 10) (gr2E y sc) = 10) := Lib.hid rfl
      rw [HZ.out]
      have hlt : secAtB y sc < 0 := by simpa using hsi
      clear hY hT hF HM he hsi HE hee k1 k2 hP
      generalize secAtB y sc = si at *
      go_enter Tryz.func59, Tryz.ntmps59
      go_wp2_with fail
      (refine wp_region_calm [] [0, 1, 2, 3, 4] 5 (by kernel_rfl) rfl (by kernel_rfl) (by kernel_rfl) (by kernel_rfl) ?_; simp only [pickB, List.filterMap_cons, List.filterMap_nil, List.getElem?_toArray, List.getElem?_cons_zero, List.getElem?_cons_succ]; (repeat (first | ((first | (with_reducible refine quietL_plain rfl (fun K hK => ?_)) | (with_reducible refine quietL_want (by with_unfolding_all rfl) (fun K hK => ?_))); (apply Exists.intro; refine ⟨fun wx hx => ?_, ?_⟩; (· (have hcx := ifs_ex hx); simp [go_sem, *, ↓IntWalk.iteOmega] <;> (first | rfl | exact ⟨rfl, rfl⟩ | (have hbx := Ex.below hx; exact calls_B (H1.out _ bl_)))); (simp only [Act.put, List.setIfInBounds_toArray, List.set_cons_zero, List.set_cons_succ]; refine hK _ ?_; clear hK K))) | ((with_reducible refine quietL_skip (by with_unfolding_all rfl) ?_); simp only [Act.put, List.setIfInBounds_toArray, List.set_cons_zero, List.set_cons_succ]))); refine quietL_nil ?_)
      (refine anyB_one (i := 5) (by kernel_rfl) rfl rfl ?_; intro wa hba K hK; obtain ⟨hca, hfa⟩ := ifs_of hba; have hsa := hba.size; (try simp at hsa); go_wp2_with fail)
      refine (H2.out _ bl_).mono ?_
      rintro e wb ⟨A', cap', rfl, hr', hc1, hc2', hbb⟩
      have hsb := hbb.size
      rw [List.length_map] at hr'
      have HR' := Lib.hid hr'
      clear hr'
      obtain ⟨hcb, hfb⟩ := ifs_of hbb; have hsb := hbb.size; (try simp at hsb)
      (go_wp2; refine ⟨xs_, ?_⟩)
      (refine anyB_one (i := 6) (by kernel_rfl) rfl rfl ?_; intro wc hbc K hK; obtain ⟨hcc, hfc⟩ := ifs_of hbc; have hsc := hbc.size; (try simp at hsc); go_wp2_with fail)
      with_reducible refine (HC.out _ wb.heap.size _ _ _ (HR'.out.below (by assumption)) (by assumption) (by have := hp9.out; unfold maxLen; omega)).mono ?_
      (rintro e wd ⟨rfl, hbd⟩; have hsd := hbd.size; (try simp at hsd))
      obtain ⟨hcd, hfd⟩ := ifs_of hbd; have hsd := hbd.size; (try simp at hsd)
      (go_wp2; refine ⟨xs_, ?_⟩)
      (refine anyB_one (i := 7) (by kernel_rfl) rfl rfl ?_; intro w2 hb2 K hK; obtain ⟨hc2, hf2⟩ := ifs_of hb2; have hs2 := hb2.size; (try simp at hs2); go_wp2; refine ⟨xs_, ?_⟩)
      (refine anyB_one (i := 8) (by kernel_rfl) rfl rfl ?_; intro w3 hb3 K hK; obtain ⟨hc3, hf3⟩ := ifs_of hb3; have hs3 := hb3.size; (try simp at hs3); go_wp2_with fail; refine (pfirst_any (w2.heap.size + 1) _ 2 2 [0, 0] _ ((by simpa using Reads.new (size := 1) w2 (([0, 0]).map (.int .i64)).toArray 34 2 rfl : Reads (w2.alloc (.cells (([0, 0]).map (.int .i64)).toArray 34)) (w2.heap.size + 1) 1 (some ⟨w2.heap.size, 0, none⟩) 2 (([0, 0]).map (.int .i64))).below (hb3.mono (by simp))) (by unfold maxLen; decide)).mono ?_; rintro e w3' ⟨rfl, rfl⟩; go_wp2; refine ⟨xs_, ?_⟩)
      rw [show firstE [0, 0] = 0 from rfl]
      (refine anyB_one (i := 9) (by kernel_rfl) rfl rfl ?_; intro w4 hb4 K hK; obtain ⟨hc4, hf4⟩ := ifs_of hb4; have hs4 := hb4.size; (try simp at hs4); go_wp2; refine ⟨xs_, ?_⟩)
      (refine anyB_end (by kernel_rfl) ?_; intro w5 hb5; obtain ⟨hc5, hf5⟩ := ifs_of hb5; have hs5 := hb5.size; (try simp at hs5); simp only [Calm]; go_wp2_with fail)
      refine (HS.out _ bl_).mono ?_
      (rintro e w6 ⟨rfl, hb6⟩; have hs6 := hb6.size; (try simp at hs6))
      obtain ⟨hc6, hf6⟩ := ifs_of hb6; have hs6 := hb6.size; (try simp at hs6)
      go_wp2_with fail
      refine bodyPost_ret (v := .tuple #[zeroY, .int .i64 10]) ?_ rfl (Or.inr ⟨by decide, rfl, bl_⟩)
      have ck := (bk_ : Blk w6 (w.heap.size + 1) 41 #[.slice none 0 0, .slice none 0 0, .slice none 0 0])
      have ck := (((ck.set_ 0 (.slice none 0 0)).set_ 1 (.slice none 0 0)).set_ 2 (.slice none 0 0)).cell
      simp [results, Tryz.results59, go_sem, zeroY, ck]
    | false =>
      have hge : 0 ≤ secAtB y sc := by simpa using hsi
      have hin := (secAtB_bd y sc).2 hge
      have HU := Lib.hid (fun W (hW : Below w.heap.size w W) => secured_any B A0 A1 A2 n0 n1 n2 c0 c1 c2 y W (hY.below (hW.mono hB)) (by have := hW.size; omega) hP _ hin)
      have HZ : Hid (or0 (whenE false 10) (gr2E y sc) = gr2E y sc) := Lib.hid rfl
      rw [HZ.out]
      have HG2 : Hid (gr2E y sc = firstE [whenE (!secB y (secAtB y sc)) 21, whenE (decide (8 ≤ (n2 : Int))) 5]) := by show _ = _; rw [gr2E, HL2.out]
      have HOw := Lib.hid (fun W (hW : Below w.heap.size w W) => owned_any B A0 A1 A2 n0 n1 n2 c0 c1 c2 y W (hY.below (hW.mono hB)) (by have := hW.size; omega) (by have := hF.s9; have := HL0.out; omega) (by have := hF.w9; have := HL1.out; omega) (by have := hF.p9; have := HL2.out; omega))
      have hlt : ¬ secAtB y sc < 0 := by omega
      have HWa := Lib.hid (fun W => pwhen_any (!secB y (secAtB y sc)) 21 W)
      have HWb := Lib.hid (fun W => pwhen_any (decide (8 ≤ (n2 : Int))) 5 W)
      have HGY : Hid (grantY y nm sc = { y with p := y.p ++ [⟨nm, secAtB y sc⟩] }) := Lib.hid rfl
      have hn2 : (n2 : Int) ≤ 9 := by have := hp9.out; have := HL2.out; omega
      clear hY hT hF HM he hsi HE hee k1 k2 hP hin hge
      generalize whenE (!secB y (secAtB y sc)) 21 = b1 at *
      generalize whenE (decide (8 ≤ (n2 : Int))) 5 = b2 at *
      generalize secB y (secAtB y sc) = sq at *
      generalize gr2E y sc = g2 at *
      cases hg2 : (g2 != 0) with
      | true =>
        have HE2 := Lib.hid (show g2 ≠ 0 by simpa using hg2)
        generalize secAtB y sc = si at *
        go_enter Tryz.func59, Tryz.ntmps59
        go_wp2_with fail
        (refine wp_region_calm [] [0, 1, 2, 3, 4] 5 (by kernel_rfl) rfl (by kernel_rfl) (by kernel_rfl) (by kernel_rfl) ?_; simp only [pickB, List.filterMap_cons, List.filterMap_nil, List.getElem?_toArray, List.getElem?_cons_zero, List.getElem?_cons_succ]; (repeat (first | ((first | (with_reducible refine quietL_plain rfl (fun K hK => ?_)) | (with_reducible refine quietL_want (by with_unfolding_all rfl) (fun K hK => ?_))); (apply Exists.intro; refine ⟨fun wx hx => ?_, ?_⟩; (· (have hcx := ifs_ex hx); simp [go_sem, *, ↓IntWalk.iteOmega] <;> (first | rfl | exact ⟨rfl, rfl⟩ | (have hbx := Ex.below hx; exact calls_B (H1.out _ bl_)))); (simp only [Act.put, List.setIfInBounds_toArray, List.set_cons_zero, List.set_cons_succ]; refine hK _ ?_; clear hK K))) | ((with_reducible refine quietL_skip (by with_unfolding_all rfl) ?_); simp only [Act.put, List.setIfInBounds_toArray, List.set_cons_zero, List.set_cons_succ]))); refine quietL_nil ?_)
        (refine anyB_one (i := 5) (by kernel_rfl) rfl rfl ?_; intro wa hba K hK; obtain ⟨hca, hfa⟩ := ifs_of hba; have hsa := hba.size; (try simp at hsa); go_wp2_with fail)
        refine (H2.out _ bl_).mono ?_
        rintro e wb ⟨A', cap', rfl, hr', hc1, hc2', hbb⟩
        have hsb := hbb.size
        rw [List.length_map] at hr'
        have HR' := Lib.hid hr'
        clear hr'
        obtain ⟨hcb, hfb⟩ := ifs_of hbb; have hsb := hbb.size; (try simp at hsb)
        (go_wp2; refine ⟨xs_, ?_⟩)
        (refine anyB_one (i := 6) (by kernel_rfl) rfl rfl ?_; intro wc hbc K hK; obtain ⟨hcc, hfc⟩ := ifs_of hbc; have hsc := hbc.size; (try simp at hsc); go_wp2_with fail)
        with_reducible refine (HC.out _ wb.heap.size _ _ _ (HR'.out.below (by assumption)) (by assumption) (by have := hp9.out; unfold maxLen; omega)).mono ?_
        (rintro e wd ⟨rfl, hbd⟩; have hsd := hbd.size; (try simp at hsd))
        obtain ⟨hcd, hfd⟩ := ifs_of hbd; have hsd := hbd.size; (try simp at hsd)
        (go_wp2; refine ⟨xs_, ?_⟩)
        (refine anyB_one (i := 7) (by kernel_rfl) rfl rfl ?_; intro w2 hb2 K hK; obtain ⟨hc2, hf2⟩ := ifs_of hb2; have hs2 := hb2.size; (try simp at hs2); go_wp2; refine ⟨xs_, ?_⟩)
        (refine anyB_one (i := 8) (by kernel_rfl) rfl rfl ?_; intro w3 hb3 K hK; obtain ⟨hc3, hf3⟩ := ifs_of hb3; have hs3 := hb3.size; (try simp at hs3); go_wp2_with fail; refine (pfirst_any (w2.heap.size + 1) _ 2 2 [0, 0] _ ((by simpa using Reads.new (size := 1) w2 (([0, 0]).map (.int .i64)).toArray 34 2 rfl : Reads (w2.alloc (.cells (([0, 0]).map (.int .i64)).toArray 34)) (w2.heap.size + 1) 1 (some ⟨w2.heap.size, 0, none⟩) 2 (([0, 0]).map (.int .i64))).below (hb3.mono (by simp))) (by unfold maxLen; decide)).mono ?_; rintro e w3' ⟨rfl, rfl⟩; go_wp2; refine ⟨xs_, ?_⟩)
        rw [show firstE [0, 0] = 0 from rfl]
        (refine anyB_one (i := 9) (by kernel_rfl) rfl rfl ?_; intro w4 hb4 K hK; obtain ⟨hc4, hf4⟩ := ifs_of hb4; have hs4 := hb4.size; (try simp at hs4); go_wp2; refine ⟨xs_, ?_⟩)
        (refine anyB_end (by kernel_rfl) ?_; intro w5 hb5; obtain ⟨hc5, hf5⟩ := ifs_of hb5; have hs5 := hb5.size; (try simp at hs5); simp only [Calm]; go_wp2_with fail)
        refine (HS.out _ bl_).mono ?_
        (rintro e w6 ⟨rfl, hb6⟩; have hs6 := hb6.size; (try simp at hs6))
        obtain ⟨hc6, hf6⟩ := ifs_of hb6; have hs6 := hb6.size; (try simp at hs6)
        go_wp2_with fail
        (refine wp_region_calm [] [0, 1, 2, 3, 4, 5, 6, 7, 8, 9] 3 (by kernel_rfl) rfl (by kernel_rfl) (by kernel_rfl) (by kernel_rfl) ?_; simp only [pickB, List.filterMap_cons, List.filterMap_nil, List.getElem?_toArray, List.getElem?_cons_zero, List.getElem?_cons_succ]; (repeat (first | ((first | (with_reducible refine quietL_plain rfl (fun K hK => ?_)) | (with_reducible refine quietL_want (by with_unfolding_all rfl) (fun K hK => ?_))); (apply Exists.intro; refine ⟨fun wx hx => ?_, ?_⟩; (· (have hcx := ifs_ex hx); simp [go_sem, *, ↓IntWalk.iteOmega] <;> (first | rfl | exact ⟨rfl, rfl⟩ | (have hbx := Ex.below hx; first | (with_reducible exact calls_B (calls_below (HWa.out _))) | (with_reducible exact calls_B (calls_below (HWb.out _))) | exact calls_B (HU.out _ bl_)))); (simp only [Act.put, List.setIfInBounds_toArray, List.set_cons_zero, List.set_cons_succ]; refine hK _ ?_; clear hK K))) | ((with_reducible refine quietL_skip (by with_unfolding_all rfl) ?_); simp only [Act.put, List.setIfInBounds_toArray, List.set_cons_zero, List.set_cons_succ]))); refine quietL_nil ?_)
        (refine anyB_one (i := 10) (by kernel_rfl) rfl rfl ?_; intro w7 hb7 K hK; obtain ⟨hc7, hf7⟩ := ifs_of hb7; have hs7 := hb7.size; (try simp at hs7); go_wp2; refine ⟨xs_, ?_⟩)
        (refine anyB_one (i := 11) (by kernel_rfl) rfl rfl ?_; intro w8 hb8 K hK; obtain ⟨hc8, hf8⟩ := ifs_of hb8; have hs8 := hb8.size; (try simp at hs8); go_wp2_with fail; refine (pfirst_any (w7.heap.size + 1) _ 2 2 [b1, b2] _ ((by simpa using Reads.new (size := 1) w7 (([b1, b2]).map (.int .i64)).toArray 34 2 rfl : Reads (w7.alloc (.cells (([b1, b2]).map (.int .i64)).toArray 34)) (w7.heap.size + 1) 1 (some ⟨w7.heap.size, 0, none⟩) 2 (([b1, b2]).map (.int .i64))).below (hb8.mono (by simp))) (by unfold maxLen; decide)).mono ?_; rintro e w8' ⟨rfl, rfl⟩; go_wp2; refine ⟨xs_, ?_⟩)
        rw [← HG2.out]
        (refine anyB_one (i := 12) (by kernel_rfl) rfl rfl ?_; intro w9 hb9 K hK; obtain ⟨hc9, hf9⟩ := ifs_of hb9; have hs9 := hb9.size; (try simp at hs9); go_wp2; refine ⟨xs_, ?_⟩)
        (refine anyB_end (by kernel_rfl) ?_; intro we hbe; obtain ⟨hce, hfe⟩ := ifs_of hbe; have hse := hbe.size; (try simp at hse); simp only [Calm]; go_wp2_with fail)
        refine bodyPost_ret (v := .tuple #[zeroY, .int .i64 g2]) ?_ rfl (Or.inr ⟨HE2.out, rfl, bl_⟩)
        have ck := (bk_ : Blk we (w.heap.size + 1) 41 #[.slice none 0 0, .slice none 0 0, .slice none 0 0])
        have ck := (((ck.set_ 0 (.slice none 0 0)).set_ 1 (.slice none 0 0)).set_ 2 (.slice none 0 0)).cell
        simp [results, Tryz.results59, go_sem, zeroY, ck]
      | false =>
        obtain rfl : g2 = 0 := by simpa using hg2
        generalize secAtB y sc = si at *
        go_enter Tryz.func59, Tryz.ntmps59
        go_wp2_with fail
        (refine wp_region_calm [] [0, 1, 2, 3, 4] 5 (by kernel_rfl) rfl (by kernel_rfl) (by kernel_rfl) (by kernel_rfl) ?_; simp only [pickB, List.filterMap_cons, List.filterMap_nil, List.getElem?_toArray, List.getElem?_cons_zero, List.getElem?_cons_succ]; (repeat (first | ((first | (with_reducible refine quietL_plain rfl (fun K hK => ?_)) | (with_reducible refine quietL_want (by with_unfolding_all rfl) (fun K hK => ?_))); (apply Exists.intro; refine ⟨fun wx hx => ?_, ?_⟩; (· (have hcx := ifs_ex hx); simp [go_sem, *, ↓IntWalk.iteOmega] <;> (first | rfl | exact ⟨rfl, rfl⟩ | (have hbx := Ex.below hx; exact calls_B (H1.out _ bl_)))); (simp only [Act.put, List.setIfInBounds_toArray, List.set_cons_zero, List.set_cons_succ]; refine hK _ ?_; clear hK K))) | ((with_reducible refine quietL_skip (by with_unfolding_all rfl) ?_); simp only [Act.put, List.setIfInBounds_toArray, List.set_cons_zero, List.set_cons_succ]))); refine quietL_nil ?_)
        (refine anyB_one (i := 5) (by kernel_rfl) rfl rfl ?_; intro wa hba K hK; obtain ⟨hca, hfa⟩ := ifs_of hba; have hsa := hba.size; (try simp at hsa); go_wp2_with fail)
        refine (H2.out _ bl_).mono ?_
        rintro e wb ⟨A', cap', rfl, hr', hc1, hc2', hbb⟩
        have hsb := hbb.size
        rw [List.length_map] at hr'
        have HR' := Lib.hid hr'
        clear hr'
        obtain ⟨hcb, hfb⟩ := ifs_of hbb; have hsb := hbb.size; (try simp at hsb)
        (go_wp2; refine ⟨xs_, ?_⟩)
        (refine anyB_one (i := 6) (by kernel_rfl) rfl rfl ?_; intro wc hbc K hK; obtain ⟨hcc, hfc⟩ := ifs_of hbc; have hsc := hbc.size; (try simp at hsc); go_wp2_with fail)
        with_reducible refine (HC.out _ wb.heap.size _ _ _ (HR'.out.below (by assumption)) (by assumption) (by have := hp9.out; unfold maxLen; omega)).mono ?_
        (rintro e wd ⟨rfl, hbd⟩; have hsd := hbd.size; (try simp at hsd))
        obtain ⟨hcd, hfd⟩ := ifs_of hbd; have hsd := hbd.size; (try simp at hsd)
        (go_wp2; refine ⟨xs_, ?_⟩)
        (refine anyB_one (i := 7) (by kernel_rfl) rfl rfl ?_; intro w2 hb2 K hK; obtain ⟨hc2, hf2⟩ := ifs_of hb2; have hs2 := hb2.size; (try simp at hs2); go_wp2; refine ⟨xs_, ?_⟩)
        (refine anyB_one (i := 8) (by kernel_rfl) rfl rfl ?_; intro w3 hb3 K hK; obtain ⟨hc3, hf3⟩ := ifs_of hb3; have hs3 := hb3.size; (try simp at hs3); go_wp2_with fail; refine (pfirst_any (w2.heap.size + 1) _ 2 2 [0, 0] _ ((by simpa using Reads.new (size := 1) w2 (([0, 0]).map (.int .i64)).toArray 34 2 rfl : Reads (w2.alloc (.cells (([0, 0]).map (.int .i64)).toArray 34)) (w2.heap.size + 1) 1 (some ⟨w2.heap.size, 0, none⟩) 2 (([0, 0]).map (.int .i64))).below (hb3.mono (by simp))) (by unfold maxLen; decide)).mono ?_; rintro e w3' ⟨rfl, rfl⟩; go_wp2; refine ⟨xs_, ?_⟩)
        rw [show firstE [0, 0] = 0 from rfl]
        (refine anyB_one (i := 9) (by kernel_rfl) rfl rfl ?_; intro w4 hb4 K hK; obtain ⟨hc4, hf4⟩ := ifs_of hb4; have hs4 := hb4.size; (try simp at hs4); go_wp2; refine ⟨xs_, ?_⟩)
        (refine anyB_end (by kernel_rfl) ?_; intro w5 hb5; obtain ⟨hc5, hf5⟩ := ifs_of hb5; have hs5 := hb5.size; (try simp at hs5); simp only [Calm]; go_wp2_with fail)
        refine (HS.out _ bl_).mono ?_
        (rintro e w6 ⟨rfl, hb6⟩; have hs6 := hb6.size; (try simp at hs6))
        obtain ⟨hc6, hf6⟩ := ifs_of hb6; have hs6 := hb6.size; (try simp at hs6)
        go_wp2_with fail
        (refine wp_region_calm [] [0, 1, 2, 3, 4, 5, 6, 7, 8, 9] 3 (by kernel_rfl) rfl (by kernel_rfl) (by kernel_rfl) (by kernel_rfl) ?_; simp only [pickB, List.filterMap_cons, List.filterMap_nil, List.getElem?_toArray, List.getElem?_cons_zero, List.getElem?_cons_succ]; (repeat (first | ((first | (with_reducible refine quietL_plain rfl (fun K hK => ?_)) | (with_reducible refine quietL_want (by with_unfolding_all rfl) (fun K hK => ?_))); (apply Exists.intro; refine ⟨fun wx hx => ?_, ?_⟩; (· (have hcx := ifs_ex hx); simp [go_sem, *, ↓IntWalk.iteOmega] <;> (first | rfl | exact ⟨rfl, rfl⟩ | (have hbx := Ex.below hx; first | (with_reducible exact calls_B (calls_below (HWa.out _))) | (with_reducible exact calls_B (calls_below (HWb.out _))) | exact calls_B (HU.out _ bl_)))); (simp only [Act.put, List.setIfInBounds_toArray, List.set_cons_zero, List.set_cons_succ]; refine hK _ ?_; clear hK K))) | ((with_reducible refine quietL_skip (by with_unfolding_all rfl) ?_); simp only [Act.put, List.setIfInBounds_toArray, List.set_cons_zero, List.set_cons_succ]))); refine quietL_nil ?_)
        (refine anyB_one (i := 10) (by kernel_rfl) rfl rfl ?_; intro w7 hb7 K hK; obtain ⟨hc7, hf7⟩ := ifs_of hb7; have hs7 := hb7.size; (try simp at hs7); go_wp2; refine ⟨xs_, ?_⟩)
        (refine anyB_one (i := 11) (by kernel_rfl) rfl rfl ?_; intro w8 hb8 K hK; obtain ⟨hc8, hf8⟩ := ifs_of hb8; have hs8 := hb8.size; (try simp at hs8); go_wp2_with fail; refine (pfirst_any (w7.heap.size + 1) _ 2 2 [b1, b2] _ ((by simpa using Reads.new (size := 1) w7 (([b1, b2]).map (.int .i64)).toArray 34 2 rfl : Reads (w7.alloc (.cells (([b1, b2]).map (.int .i64)).toArray 34)) (w7.heap.size + 1) 1 (some ⟨w7.heap.size, 0, none⟩) 2 (([b1, b2]).map (.int .i64))).below (hb8.mono (by simp))) (by unfold maxLen; decide)).mono ?_; rintro e w8' ⟨rfl, rfl⟩; go_wp2; refine ⟨xs_, ?_⟩)
        rw [← HG2.out]
        (refine anyB_one (i := 12) (by kernel_rfl) rfl rfl ?_; intro w9 hb9 K hK; obtain ⟨hc9, hf9⟩ := ifs_of hb9; have hs9 := hb9.size; (try simp at hs9); go_wp2; refine ⟨xs_, ?_⟩)
        (refine anyB_end (by kernel_rfl) ?_; intro we hbe; obtain ⟨hce, hfe⟩ := ifs_of hbe; have hse := hbe.size; (try simp at hse); simp only [Calm]; go_wp2_with fail)
        refine (HOw.out _ bl_).mono ?_
        rintro e wf ⟨D0, D2, d0, d2, g, rfl, hO, hbf⟩
        have hsf := hbf.size
        obtain ⟨hcf, hff⟩ := ifs_of hbf; have hsf := hbf.size; (try simp at hsf)
        have HOf := Lib.hid hO
        have hgb := hO.2.2.1
        have hpl := hp9.out
        clear hO
        have HO0 := Lib.hid (HOf.out.kept (bl_ : Below wf.heap.size wf (wf.alloc (.cells #[.slice D0 y.s.length d0, .slice (some ⟨g, 0, none⟩) y.w.length y.w.length, .slice D2 y.p.length d2] 41))))
        have HZ0 := Lib.hid (show Blk (wf.alloc (.cells #[.slice D0 y.s.length d0, .slice (some ⟨g, 0, none⟩) y.w.length y.w.length, .slice D2 y.p.length d2] 41)) (w.heap.size + 1) 41 #[.slice none 0 0, .slice none 0 0, .slice none 0 0] from bk_)
        have HBf := Lib.hid (bl_ : Below w.heap.size w (wf.alloc (.cells #[.slice D0 y.s.length d0, .slice (some ⟨g, 0, none⟩) y.w.length y.w.length, .slice D2 y.p.length d2] 41)))
        go_wp2_with (at_builtin; refine wpList_app 39 117 2 24 elemPm rfl (.tmp 50) (.tmp 54) rfl we.heap.size _ y.p.length _ rfl HO0.out.2.2.2 1 (by show Value.slice (some ⟨wf.heap.size + 1, 0, none⟩) 1 1 = _; simp) rfl (by intro u hu; simp at hu; rcases hu with rfl | rfl <;> rfl) (by decide) ?h3 ?h4 ?h5 ?_)
        case h3 => unfold maxLen; omega
        case h4 => omega
        case h5 => simp; omega
        intro g' cap' w' hown' hb' hk' hs'
        have hOn := HO0.out.app (x := ⟨nm, si⟩) hk' hown'
        have b11 := hk' _ _ _ (Blk.new wf 41 #[.slice D0 y.s.length d0, .slice (some ⟨g, 0, none⟩) y.w.length y.w.length, .slice D2 y.p.length d2]) (row_own_neW HO0.out.2.2.2 (Blk.new wf 41 _) (by decide))
        have bz := hk' _ _ _ HZ0.out (row_own_neW HO0.out.2.2.2 HZ0.out (by decide))
        have hbl := HBf.out.trans (hb'.mono (by omega))
        have hnz : wf.heap.size ≠ w.heap.size + 1 := by omega
        have hO1 := hOn.far (i := 2) b11 (.slice (some ⟨g', 0, none⟩) (y.p.length + 1) cap') (by decide) (by decide) (by decide)
        have bz1 := bz.far (p := ⟨wf.heap.size, 2, none⟩) (fun e => hnz e.symm) (.slice (some ⟨g', 0, none⟩) (y.p.length + 1) cap')
        have hO6 := ((hO1.far (i := 0) bz1 (.slice D0 y.s.length d0) (by decide) (by decide) (by decide)).far (i := 1) (bz1.set_ 0 _) (.slice (some ⟨g, 0, none⟩) y.w.length y.w.length) (by decide) (by decide) (by decide)).far (i := 2) ((bz1.set_ 0 _).set_ 1 _) (.slice (some ⟨g', 0, none⟩) (y.p.length + 1) cap') (by decide) (by decide) (by decide)
        have hbl6 := (((hbl.setCell (p := ⟨wf.heap.size, 2, none⟩) (by simp; omega) (.slice (some ⟨g', 0, none⟩) (y.p.length + 1) cap')).setCell (p := ⟨w.heap.size + 1, 0, none⟩) (by simp) (.slice D0 y.s.length d0)).setCell (p := ⟨w.heap.size + 1, 1, none⟩) (by simp) (.slice (some ⟨g, 0, none⟩) y.w.length y.w.length)).setCell (p := ⟨w.heap.size + 1, 2, none⟩) (by simp) (.slice (some ⟨g', 0, none⟩) (y.p.length + 1) cap')
        have ck := (((bz1.set_ 0 (.slice D0 y.s.length d0)).set_ 1 (.slice (some ⟨g, 0, none⟩) y.w.length y.w.length)).set_ 2 (.slice (some ⟨g', 0, none⟩) (y.p.length + 1) cap')).cell
        have HO6 := Lib.hid (And.intro hO6 hbl6)
        have c11 := b11.cell
        have f11 := b11.frozen
        have l11 := b11.lt
        have cz := bz.cell
        have fz := bz.frozen
        have lz := bz.lt
        clear hO6 hbl6 hO1 bz1 hOn hbl b11 bz hk' hown' hb'
        go_wp2
        refine bodyPost_ret (v := .tuple #[.agg #[.slice D0 y.s.length d0, .slice (some ⟨g, 0, none⟩) y.w.length y.w.length, .slice (some ⟨g', 0, none⟩) (y.p.length + 1) cap'], .int .i64 0]) ?_ rfl (Or.inl ⟨rfl, D0, some ⟨g', 0, none⟩, d0, cap', g, ?_, ?_, HO6.out.2⟩)
        · simp [results, Tryz.results59, go_sem, ck]
        · rw [HGY.out, List.length_append]; rfl
        · rw [HGY.out, List.length_append]; exact HO6.out.1.base (by omega)
end Go.Proofs.YtphlojgmfkgeiaaGreatDoor
