/- Joined texts: CD CE. -/
import Derived.Laws.FloatArith
import Derived.Test.YtafnebfchhmgcaaGreatQm
import Derived.Test.YtafnebfchhmgcaaGreatQd
import Derived.Test.YtafnebfchhmgcaaGreatQh
/- Samples of charges; Log of the program. -/
namespace Go.Proofs.YtafnebfchhmgcaaGreat
open Go Go.RowKit Go.Sort Go.Shelf
set_option linter.unusedSimpArgs false
set_option linter.unusedVariables false
attribute [local go_sem] cell_if frozen_if grow_cell
theorem read_near (neg : Bool) (mag : Nat) (place : Int) : (∃ s m e, Ieee.single.read (Ieee.single.nearest neg mag place) = .number s m e) ∨ ∃ s, Ieee.single.read (Ieee.single.nearest neg mag place) = .infinity s := by
  have key : ∀ r, r ≤ Ieee.single.infRung → (∃ s m e, Ieee.single.read (Ieee.single.word neg r) = .number s m e) ∨ ∃ s, Ieee.single.read (Ieee.single.word neg r) = .infinity s := by
    intro r hr
    have e1 : Ieee.single.infRung = 2139095040 := by decide
    have e2 : Ieee.single.signWeight = 2147483648 := by decide
    have e3 : Ieee.single.word neg r % Ieee.single.signWeight = r := by
      unfold Ieee.Format.word
      rw [e2]
      split <;> omega
    unfold Ieee.Format.read
    simp only [e3]
    split
    · exact .inl ⟨_, _, _, rfl⟩
    · split
      · exact .inl ⟨_, _, _, rfl⟩
      · rw [if_pos (by omega)]
        exact .inr ⟨_, rfl⟩
  unfold Ieee.Format.nearest
  split
  · exact key 0 (Nat.zero_le _)
  · exact key _ (Nat.min_le_right _ _)
theorem div16_some (q : Int) : ∃ r, floatBits .quo .f32 (floatOfInt .f32 q) 1098907648 = some r := by
  have h16 : ∃ s e, Ieee.single.read 1098907648 = .number s 8388608 e := ⟨false, -19, by decide⟩
  obtain ⟨s, e, h16⟩ := h16
  have hx : (∃ s m e, Ieee.single.read (floatOfInt .f32 q) = .number s m e) ∨ ∃ s, Ieee.single.read (floatOfInt .f32 q) = .infinity s := read_near _ _ _
  show ∃ r, ((Ieee.single.read (floatOfInt .f32 q)).quotient (Ieee.single.fractionBits + 2) (Ieee.single.read 1098907648)).map Ieee.single.write = some r
  rw [h16]
  rcases hx with ⟨s1, m1, e1, hx⟩ | ⟨s1, hx⟩
  · rw [hx]
    unfold Ieee.Datum.quotient
    exact ⟨_, rfl⟩
  · rw [hx]
    unfold Ieee.Datum.quotient
    exact ⟨_, rfl⟩
/-- A charge as a sample. -/
def smp (q : Int) : Nat := (floatBits .quo .f32 (floatOfInt .f32 q) 1098907648).getD 0
theorem smp_bits (q : Int) : floatBits .quo .f32 (floatOfInt .f32 q) 1098907648 = some (smp q) := by
  obtain ⟨r, h⟩ := div16_some q
  unfold smp
  rw [h]
  rfl
theorem log11_any (x : Md) (w : World) : Calls Tryz.prog 51 #[.agg #[.string x.n, .int .i64 x.q, .bool x.on, .bool x.by_]] w fun e w' => e = .returned (.float .f32 (smp x.q)) ∧ Below w.heap.size w w' := by
  have hb := fun W => run_float_arith (P := Tryz.prog) W .quo 49 .f32 _ _ _ (smp_bits x.q)
  go_enter Tryz.func51, Tryz.ntmps51
  go_wp2_with fail
  go_ret
  exact ⟨rfl, bl_⟩

theorem elemF32 : Elem Tryz.prog 51 49 1 4 := elem_of Tryz.underlying51 (z := .float .f32 0) (by kernel_rfl) rfl (by decide)
theorem elemFF : Elem Tryz.prog 30 51 1 24 := elem_of Tryz.underlying30 (z := .slice none 0 0) (by kernel_rfl) rfl (by decide)
set_option maxRecDepth 100000 in
set_option maxHeartbeats 2000000 in
theorem mapMF_any (B : Nat) (A : Option Addr) (n c : Nat) (l : List Md) (w : World)  (hr : Reads w B 4 A n (mds l)) (hB : B ≤ w.heap.size) (hn : n ≤ 1000) :
    Calls Tryz.prog 50 #[.slice A n c, .func (.func 51) #[] #[]] w (MapRes 49 w (l.map fun x => Value.float .f32 (smp x.q))) := by
  obtain ⟨hl, ha⟩ := md_at hr
  have HL := Lib.hid hl
  have HA := Lib.hid ha
  clear hl ha hr
  go_enter Tryz.func50, Tryz.ntmps50
  go_wp2_with fail
  go_loopw [5, 10] (fun v i wr => ∃ k : Nat, k ≤ n ∧ i = .int .i64 k ∧ wr.ownsRow w.heap.size 49 1 v k ((l.take k).map fun x => Value.float .f32 (smp x.q)) ∧ Below w.heap.size w wr) (fun _ i _ => n - (intOf i).toNat)
  case atStart => exact ⟨0, by omega, rfl, World.ownsRow_nil _ _ _ _, bl_⟩
  case round =>
    obtain ⟨k, hk, rfl, hO, hb⟩ := hrel
    have HO := Lib.hid hO
    clear hO
    have hs := hb.size
    by_cases hlt : k < n
    · have hkl : k < l.length := by rw [HL.out]; exact hlt
      obtain ⟨b, o, eA, hbb, hz⟩ := HA.out k hkl
      have kb : ∀ i, wr.cell? ⟨b, i, none⟩ = w.cell? ⟨b, i, none⟩ := fun i => hb.cell (p := ⟨b, i, none⟩) (by simp; omega)
      simp only [← kb] at hz
      clear kb
      have hbw : b < wr.heap.size := by omega
      subst eA
      have Hd : Hid (((l.take (k + 1)).map fun x => Value.float .f32 (smp x.q)) = ((l.take k).map fun x => Value.float .f32 (smp x.q)) ++ [(fun x => Value.float .f32 (smp x.q)) l[k]]) := by
        show _ = _
        rw [List.take_succ_eq_append_getElem hkl, List.map_append]; rfl
      generalize l[k] = x at *
      obtain ⟨xn, xq, xo, xb⟩ := x; obtain ⟨z0, z1, z2, z3⟩ := hz; dsimp only at z0 z1 z2 z3
      go_wp2_with (first | (go_at_call 51; refine (log11_any ⟨xn, xq, xo, xb⟩ _).mono ?_; rintro e w1 ⟨rfl, hb1⟩; have hs1 := hb1.size; simp at hs1; have HO1 := Lib.hid (own_kept (HO.out.alloc _) hb1)) | (at_builtin; refine wpList_app 51 49 1 4 elemF32 rfl (.tmp 14) (.tmp 18) rfl w.heap.size _ k _ rfl HO1.out 1 rfl rfl ?h1 (by decide) ?h3 (by omega) (by omega) ?_))
      case h1 => rfl
      case h3 => unfold maxLen; omega
      intro g' cap' w' hown' hb' _ hs'
      go_wp2
      go_roundw
      case rel => exact ⟨k + 1, by omega, by go_num, by rw [Hd.out]; simpa using hown', (hb.trans (((Below.refl _ _).alloc hs _).trans (hb1.mono (by simp; omega)))).trans hb'⟩
      case measure => simp [intOf]; omega
    · obtain rfl : k = n := by omega
      have HL2 := Lib.hid HL.out
      go_wp2
      go_ret
      refine ⟨_, rfl, ?_, hb⟩
      have := HO.out
      rw [List.take_of_length_le (by rw [HL2.out]; exact Nat.le_refl _)] at this
      rw [List.length_map, HL2.out]
      exact this
/-- Samples as values. -/
def smps (l : List Int) : List Value := l.map fun q => .float .f32 (smp q)
/-- A log in memory. -/
def LogAt (base ob : Nat) (lg : List (List Int)) (W : World) : Prop := ∃ (v : Value) (vs : List Value), Blk W ob 30 #[v] ∧ W.ownsRow base 51 1 v lg.length vs ∧ vs.length = lg.length ∧ ∀ (i : Nat) (u : Value), vs[i]? = some u → ∃ l, lg[i]? = some l ∧ W.ownsRow base 49 1 u l.length (smps l)
theorem row_same {W W' : World} {base e size n : Nat} {v : Value} {xs : List Value} (h : W.ownsRow base e size v n xs) (hk : ∀ j c, Blk W j e c → Blk W' j e c) : W'.ownsRow base e size v n xs :=
  row_kept h fun j c hj => (show W'.heap[j]? = _ from hk j c hj).trans (show W.heap[j]? = _ from hj).symm
theorem LogAt.kept {base ob : Nat} {lg : List (List Int)} {W W' : World} (h : LogAt base ob lg W) (hK : KeepOut W W') : LogAt base ob lg W' := by
  obtain ⟨v, vs, h1, h2, h3, h4⟩ := h
  exact ⟨v, vs, hK.2 _ _ _ (by decide) h1, row_same h2 fun j c hj => hK.2 _ _ _ (by decide) hj, h3, fun i u hu => by
    obtain ⟨l, e, hr⟩ := h4 i u hu
    exact ⟨l, e, row_same hr fun j c hj => hK.2 _ _ _ (by decide) hj⟩⟩
set_option maxRecDepth 100000 in
set_option maxHeartbeats 8000000 in
theorem log1_any (base Bz ob g1 g2 n : Nat) (a b : Ar) (o : Od) (lg : List (List Int)) (w : World) (hL : LogAt base ob lg w) (h2 : BlkArm w g2 b) (hn : b.m.length = n) (h17 : n ≤ 17) (hb : base ≤ w.heap.size) (hz : Bz ≤ base) (hz2 : Bz ≤ ob) (hlg : lg.length ≤ 1000) :
    Calls Tryz.prog 49 #[.agg #[.int .i64 o.n, .int .i64 o.c], .agg #[.slice (some ⟨g1, 0, none⟩) n n, .int .i64 a.lo, .int .i64 a.hi, .int .i64 a.cur, .int .i64 a.lim], .agg #[.slice (some ⟨g2, 0, none⟩) n n, .int .i64 a.lo, .int .i64 a.hi, .int .i64 a.cur, .int .i64 a.lim], .pointer (some ⟨ob, 0, none⟩)] w fun e w' => e = .returned (.tuple #[]) ∧ LogAt base ob (lg ++ [b.m.map Md.q]) w' ∧ Below Bz w w' ∧ KeepArm w w' := by
  obtain ⟨v, vs, q1, q2, q3, q4⟩ := hL
  have HMp := Lib.hid (fun W (hW : Below w.heap.size w W) => mapMF_any (g2 + 1) (some ⟨g2, 0, none⟩) n n b.m W ((h2.at hn).below (hW.mono (Blk.lt h2))) (by have := hW.size; have := Blk.lt h2; omega) (by omega))
  have HQ1 := Lib.hid q1
  have HQ2 := Lib.hid q2
  have HQ4 := Lib.hid q4
  have HQ3 := Lib.hid q3
  have hvl : vs.length = lg.length := q3
  clear h2 q1 q2 q3 q4
  go_enter Tryz.func49, Tryz.ntmps49
  go_upto_region 1 with fail
  refine wp_world ?_
  intro W0 hW0
  have hb0 : Below w.heap.size w W0 := by rw [hW0]; exact bl_
  have bA0 : Blk W0 (w.heap.size + 1 + 1) 36 #[.slice (some ⟨g2, 0, none⟩) n n, .int .i64 a.lo, .int .i64 a.hi, .int .i64 a.cur, .int .i64 a.lim] := by rw [hW0]; exact bk_
  clear hW0
  have hs0 := hb0.size
  have HMp0 := Lib.hid (fun W (hW : Below W0.heap.size W0 W) => HMp.out W (hb0.trans (hW.mono hs0)))
  have HB0 := Lib.hid hb0
  have HB6 := Lib.hid (HQ1.out.kept hb0)
  have S2 := Lib.hid (own_kept HQ2.out hb0)
  have cA := bA0.cell
  have lA := bA0.lt
  obtain ⟨A6, c6, rfl, hc6, _, _⟩ := own_form HQ2.out
  obtain ⟨g0, hg00⟩ : ∃ g0, (Value.slice A6 lg.length c6).ownBlock.getD ob = g0 := ⟨_, rfl⟩
  have hg0 := Lib.hid hg00
  have hob := HB6.out.lt
  have hne1 : w.heap.size + 1 + 1 ≠ ob := blk_ne bA0 HB6.out (by decide)
  have hne2 : w.heap.size + 1 + 1 ≠ g0 := by
    rw [← hg00]
    cases hob : (Value.slice A6 lg.length c6).ownBlock with
    | none => exact hne1
    | some r => have := (row_base_lt HQ2.out r hob).2; simp; omega
  clear hg00
  have hzs := fun q => smps q
  have HLg : Hid (∀ (wp w6 w7 w8 : World) (g6 cap6 : Nat) (u : Value), Below W0.heap.size W0 wp → Below base wp w6 → (∀ k t c, t ≠ 51 → Blk wp k t c → Blk w6 k t c) → Own w6 base 51 1 g6 (lg.length + 1) cap6 (vs ++ [u]) → Below w6.heap.size w6 w7 → wp.ownsRow base 49 1 u n (smps (b.m.map Md.q)) →
      Below (w7.setCell ⟨ob, 0, none⟩ (.slice (some ⟨g6, 0, none⟩) (lg.length + 1) cap6)).heap.size (w7.setCell ⟨ob, 0, none⟩ (.slice (some ⟨g6, 0, none⟩) (lg.length + 1) cap6)) w8 → LogAt base ob (lg ++ [b.m.map Md.q]) w8 ∧ Below Bz w w8 ∧ KeepArm w w8) := by
    refine Lib.hid fun wp w6 w7 w8 g6 cap6 u h15 h56 hk hO h67 hrow h78 => ?_
    have hB1 := HB6.out.kept h15
    have hB6 := hk _ _ _ (by decide) hB1
    have hB7 := hB6.kept h67
    have hst : ∀ k t c, t ≠ 30 → t ≠ 51 → Blk wp k t c → Blk w8 k t c := fun k t c h1 h2 hb => (((hk k t c h2 hb).kept h67).far (p := ⟨ob, 0, none⟩) (blk_ne ((hk k t c h2 hb).kept h67) hB7 h1) _).kept h78
    have hs1 := h15.size
    have hs2 := h56.size
    have hs3 := h67.size
    have e5 : ∀ (V : World) (p : Addr) (u : Value), (V.setCell p u).heap.size = V.heap.size := fun V p u => by simp [World.setCell]
    have hs4 := h78.size
    rw [e5] at hs4
    refine ⟨⟨_, vs ++ [u], (hB7.set_ 0 _).kept h78, ?_, by simp [hvl], fun i x hx => ?_⟩, ?_, fun j t c ht hj => ?_⟩
    · rw [List.length_append]
      exact own_kept (row_set (own_kept hO h67) hB7 (by decide)) h78
    · by_cases hi : i < vs.length
      · rw [List.getElem?_append_left hi] at hx
        obtain ⟨l, e1, e2⟩ := HQ4.out i x hx
        refine ⟨l, by rw [List.getElem?_append_left (by omega)]; exact e1, ?_⟩
        exact row_same (own_kept (own_kept e2 hb0) h15) fun j c hj => hst j _ c (by decide) (by decide) hj
      · rw [List.getElem?_append_right (by omega)] at hx
        have hi2 : i = vs.length := by
          have := (List.getElem?_eq_some_iff.1 hx).1
          simp at this
          omega
        subst hi2
        simp at hx
        subst hx
        refine ⟨b.m.map Md.q, by rw [hvl, List.getElem?_append_right (by omega)]; simp, ?_⟩
        rw [List.length_map, hn]
        exact row_same hrow fun j c hj => hst j _ c (by decide) (by decide) hj
    · exact (((((hb0.mono (by omega)).trans (h15.mono (by omega))).trans (h56.mono hz)).trans (h67.mono (by omega))).setCell (p := ⟨ob, 0, none⟩) hz2 _).trans (h78.mono (by rw [e5]; omega))
    · exact hst j t c (by rcases ht with rfl | rfl | rfl <;> decide) (by rcases ht with rfl | rfl | rfl <;> decide) ((hj.kept hb0).kept h15)
  have HMp1 : Hid (∀ W, Below W0.heap.size W0 W → Calls Tryz.prog 50 #[.slice (some ⟨g2, 0, none⟩) n n, .func (.func 51) #[] #[]] W fun e w' => ∃ AR cR, e = .returned (.slice AR n cR) ∧ w'.ownsRow W.heap.size 49 1 (.slice AR n cR) n (smps (b.m.map Md.q)) ∧ Below W.heap.size W w') := by
    refine Lib.hid fun W hW => (HMp0.out W hW).mono ?_
    rintro e w' ⟨v, rfl, hr, hb⟩
    obtain ⟨AR, cR, rfl, _, _, _⟩ := own_form hr
    have el : (b.m.map fun x => Value.float FloatKind.f32 (smp x.q)).length = n := by rw [List.length_map, hn]
    have es : smps (b.m.map Md.q) = b.m.map fun x => Value.float FloatKind.f32 (smp x.q) := by unfold smps; rw [List.map_map]; rfl
    rw [el] at hr
    rw [es]
    exact ⟨AR, cR, by rw [el], hr, hb⟩
  clear hzs HB0 bA0 hb0 HMp HQ1 HQ2 HQ3 HQ4 HMp0
  (refine wp_region_calm [ob, g0] [1, 2] 5 (by kernel_rfl) rfl (by kernel_rfl) (by kernel_rfl) (by kernel_rfl) ?_; simp only [pickB, List.filterMap_cons, List.filterMap_nil, List.getElem?_toArray, List.getElem?_cons_zero, List.getElem?_cons_succ]; (repeat (first | ((first | (with_reducible refine quietL_plain rfl (fun K hK => ?_)) | (with_reducible refine quietL_want (by with_unfolding_all rfl) (fun K hK => ?_))); (apply Exists.intro; refine ⟨fun wx hx => ?_, ?_⟩; (· (have hcx := ifs_ex hx); simp [go_sem, *, ↓IntWalk.iteOmega] <;> (first | rfl | exact ⟨rfl, rfl⟩ | fail)); (simp only [Act.put, List.setIfInBounds_toArray, List.set_cons_zero, List.set_cons_succ]; refine hK _ ?_; clear hK K))) | ((with_reducible refine quietL_skip (by with_unfolding_all rfl) ?_); simp only [Act.put, List.setIfInBounds_toArray, List.set_cons_zero, List.set_cons_succ]))); refine quietL_nil ?_)
  have H0 : Hid (Below W0.heap.size W0 W0) := Lib.hid (Below.refl _ _)
  refine anyB_two (i := 0) (j := 3) (by kernel_rfl) rfl rfl rfl rfl ?_ ?_
  · intro w1 hb1 K hK
    have H1 := Lib.hid (H0.out.trans (hb1.mono H0.out.size))
    have c_ := (HB6.out.kept H1.out).cell
    have l_ := (HB6.out.kept H1.out).lt
    go_wp2
    refine ⟨Ex.of_below H1.out, ?_⟩
    clear c_ l_
    refine anyB_one (i := 3) (by kernel_rfl) rfl rfl ?_
    intro w2 hb2 K hK
    have h_ := H1.out.trans (hb2.mono H1.out.size)
    have H_ := Lib.hid h_
    clear h_
    go_wp2_with fail
    refine (HMp1.out _ H_.out).mono ?_
    rintro e w3 ⟨AR, cR, rfl, hr_, hb_⟩
    have H3 := Lib.hid (H_.out.trans (hb_.mono H_.out.size))
    have HR0 := Lib.hid (row_base (base' := base) hr_ (by have := H_.out.size; omega))
    go_wp2
    refine ⟨Ex.of_below H3.out, ?_⟩
    clear hr_ hb_ H_
    refine anyB_one (i := 4) (by kernel_rfl) rfl rfl ?_
    intro w4 hb4 K hK
    have h_ := H3.out.trans (hb4.mono H3.out.size)
    have H_ := Lib.hid h_
    go_wp2
    have H1c := Lib.hid (H_.out.alloc H_.out.size (.cells #[.slice AR n cR] 51))
    refine ⟨Ex.of_below H1c.out, ?_⟩
    clear h_ H_
    have HLit := Lib.hid (Blk.new w4 51 #[.slice AR n cR])
    have HRw : Hid (True ∧ ∀ wp, Below (w4.alloc (.cells #[.slice AR n cR] 51)).heap.size (w4.alloc (.cells #[.slice AR n cR] 51)) wp → wp.ownsRow base 49 1 (.slice AR n cR) n (smps (b.m.map Md.q))) := Lib.hid ⟨trivial, fun wp h => own_kept (World.ownsRow.alloc (own_kept HR0.out hb4) _) h⟩
    clear hb1 hb2 hb4
    refine anyB_one (i := 5) (by kernel_rfl) rfl rfl ?_
    intro wp hbp K hK
    have h15 : Below W0.heap.size W0 wp := H1c.out.trans (hbp.mono H1c.out.size)
    have hs15 := h15.size
    have hrow5 := own_kept S2.out h15
    refine wp_appB 30 51 1 24 elemFF (.tmp 7) (.tmp 11) rfl base (.slice A6 lg.length c6) lg.length vs rfl hrow5 w4.heap.size 1 #[.slice AR n cR] rfl (HLit.out.kept hbp) rfl ?_ (by decide) ?_ ?_ ?_ ?_
    · intro u hu; simp at hu; subst hu; rfl
    · unfold maxLen; omega
    · omega
    · omega
    intro g6 cap6 w6 hO6 hg6 _
    have hb56 : Below base wp w6 := (Below.refl base wp).grown hg6 (by omega) (fun r e => (row_base_lt hrow5 r e).1)
    have hk56 : ∀ k t c, t ≠ 51 → Blk wp k t c → Blk w6 k t c := fun _ _ _ ht hk => hk.grown hg6 (fun e => own_ne hrow5 hk ht e.symm)
    have hX6 : Ex [ob, g0] W0 w6 := (Ex.of_below h15).trans (Ex.of_grown hg6 (fun r e => by rw [← hg0.out, e]; simp))
    have hs56 := hb56.size
    refine hK _ _ ⟨hX6, ?_⟩
    clear hK K
    refine anyB_one (i := 6) (by kernel_rfl) rfl rfl ?_
    intro w7 hb7 K hK
    have B7 := (hk56 _ _ _ (by decide) (HB6.out.kept h15)).kept hb7
    have c7 := B7.cell
    have f7 := B7.frozen
    have l7 := B7.lt
    go_wp2
    refine ⟨Ex.set_in (by simp) (hX6.grown hb7) _, ?_⟩
    refine anyB_end (by kernel_rfl) ?_
    intro w8 hb8
    simp only [Calm]
    have HFin := Lib.hid (HLg.out wp w6 w7 w8 g6 cap6 _ h15 hb56 hk56 hO6 hb7 (HRw.out.2 wp hbp) hb8)
    clear c7 f7 l7 B7 hb8 hb7 hX6 hb56 hk56 hO6 hg6 hrow5 h15 hbp
    go_wp2_with fail
    refine bodyPost_end (results_none rfl _ _ _) rfl ?_
    exact ⟨rfl, HFin.out⟩
  · intro w2 hb2 K hK
    have h_ := H0.out.trans (hb2.mono H0.out.size)
    have H_ := Lib.hid h_
    clear h_
    go_wp2_with fail
    refine (HMp1.out _ H_.out).mono ?_
    rintro e w3 ⟨AR, cR, rfl, hr_, hb_⟩
    have H3 := Lib.hid (H_.out.trans (hb_.mono H_.out.size))
    have HR0 := Lib.hid (row_base (base' := base) hr_ (by have := H_.out.size; omega))
    go_wp2
    refine ⟨Ex.of_below H3.out, ?_⟩
    clear hr_ hb_ H_
    refine anyB_two (i := 0) (j := 4) (by kernel_rfl) rfl rfl rfl rfl ?_ ?_
    · intro w1 hb1 K hK
      have H1 := Lib.hid (H3.out.trans (hb1.mono H3.out.size))
      have c_ := (HB6.out.kept H1.out).cell
      have l_ := (HB6.out.kept H1.out).lt
      go_wp2
      refine ⟨Ex.of_below H1.out, ?_⟩
      clear c_ l_
      refine anyB_one (i := 4) (by kernel_rfl) rfl rfl ?_
      intro w4 hb4 K hK
      have h_ := H1.out.trans (hb4.mono H1.out.size)
      have H_ := Lib.hid h_
      go_wp2
      have H1c := Lib.hid (H_.out.alloc H_.out.size (.cells #[.slice AR n cR] 51))
      refine ⟨Ex.of_below H1c.out, ?_⟩
      clear h_ H_
      have HLit := Lib.hid (Blk.new w4 51 #[.slice AR n cR])
      have HRw : Hid (True ∧ ∀ wp, Below (w4.alloc (.cells #[.slice AR n cR] 51)).heap.size (w4.alloc (.cells #[.slice AR n cR] 51)) wp → wp.ownsRow base 49 1 (.slice AR n cR) n (smps (b.m.map Md.q))) := Lib.hid ⟨trivial, fun wp h => own_kept (World.ownsRow.alloc (own_kept (own_kept HR0.out hb1) hb4) _) h⟩
      clear hb1 hb2 hb4
      refine anyB_one (i := 5) (by kernel_rfl) rfl rfl ?_
      intro wp hbp K hK
      have h15 : Below W0.heap.size W0 wp := H1c.out.trans (hbp.mono H1c.out.size)
      have hs15 := h15.size
      have hrow5 := own_kept S2.out h15
      refine wp_appB 30 51 1 24 elemFF (.tmp 7) (.tmp 11) rfl base (.slice A6 lg.length c6) lg.length vs rfl hrow5 w4.heap.size 1 #[.slice AR n cR] rfl (HLit.out.kept hbp) rfl ?_ (by decide) ?_ ?_ ?_ ?_
      · intro u hu; simp at hu; subst hu; rfl
      · unfold maxLen; omega
      · omega
      · omega
      intro g6 cap6 w6 hO6 hg6 _
      have hb56 : Below base wp w6 := (Below.refl base wp).grown hg6 (by omega) (fun r e => (row_base_lt hrow5 r e).1)
      have hk56 : ∀ k t c, t ≠ 51 → Blk wp k t c → Blk w6 k t c := fun _ _ _ ht hk => hk.grown hg6 (fun e => own_ne hrow5 hk ht e.symm)
      have hX6 : Ex [ob, g0] W0 w6 := (Ex.of_below h15).trans (Ex.of_grown hg6 (fun r e => by rw [← hg0.out, e]; simp))
      have hs56 := hb56.size
      refine hK _ _ ⟨hX6, ?_⟩
      clear hK K
      refine anyB_one (i := 6) (by kernel_rfl) rfl rfl ?_
      intro w7 hb7 K hK
      have B7 := (hk56 _ _ _ (by decide) (HB6.out.kept h15)).kept hb7
      have c7 := B7.cell
      have f7 := B7.frozen
      have l7 := B7.lt
      go_wp2
      refine ⟨Ex.set_in (by simp) (hX6.grown hb7) _, ?_⟩
      refine anyB_end (by kernel_rfl) ?_
      intro w8 hb8
      simp only [Calm]
      have HFin := Lib.hid (HLg.out wp w6 w7 w8 g6 cap6 _ h15 hb56 hk56 hO6 hb7 (HRw.out.2 wp hbp) hb8)
      clear c7 f7 l7 B7 hb8 hb7 hX6 hb56 hk56 hO6 hg6 hrow5 h15 hbp
      go_wp2_with fail
      refine bodyPost_end (results_none rfl _ _ _) rfl ?_
      exact ⟨rfl, HFin.out⟩
    · intro w4 hb4 K hK
      have h_ := H3.out.trans (hb4.mono H3.out.size)
      have H_ := Lib.hid h_
      go_wp2
      have H4 := Lib.hid (H_.out.alloc H_.out.size (.cells #[.slice AR n cR] 51))
      refine ⟨Ex.of_below H4.out, ?_⟩
      clear h_ H_
      refine anyB_one (i := 0) (by kernel_rfl) rfl rfl ?_
      intro w1 hb1 K hK
      have H1c := Lib.hid (H4.out.trans (hb1.mono H4.out.size))
      have c_ := (HB6.out.kept H1c.out).cell
      have l_ := (HB6.out.kept H1c.out).lt
      go_wp2
      refine ⟨Ex.of_below H1c.out, ?_⟩
      clear c_ l_
      have HLit := Lib.hid ((Blk.new w4 51 #[.slice AR n cR]).kept hb1)
      have HRw : Hid (True ∧ ∀ wp, Below w1.heap.size w1 wp → wp.ownsRow base 49 1 (.slice AR n cR) n (smps (b.m.map Md.q))) := Lib.hid ⟨trivial, fun wp h => own_kept (own_kept (World.ownsRow.alloc (own_kept HR0.out hb4) _) hb1) h⟩
      clear hb1 hb2 hb4
      refine anyB_one (i := 5) (by kernel_rfl) rfl rfl ?_
      intro wp hbp K hK
      have h15 : Below W0.heap.size W0 wp := H1c.out.trans (hbp.mono H1c.out.size)
      have hs15 := h15.size
      have hrow5 := own_kept S2.out h15
      refine wp_appB 30 51 1 24 elemFF (.tmp 7) (.tmp 11) rfl base (.slice A6 lg.length c6) lg.length vs rfl hrow5 w4.heap.size 1 #[.slice AR n cR] rfl (HLit.out.kept hbp) rfl ?_ (by decide) ?_ ?_ ?_ ?_
      · intro u hu; simp at hu; subst hu; rfl
      · unfold maxLen; omega
      · omega
      · omega
      intro g6 cap6 w6 hO6 hg6 _
      have hb56 : Below base wp w6 := (Below.refl base wp).grown hg6 (by omega) (fun r e => (row_base_lt hrow5 r e).1)
      have hk56 : ∀ k t c, t ≠ 51 → Blk wp k t c → Blk w6 k t c := fun _ _ _ ht hk => hk.grown hg6 (fun e => own_ne hrow5 hk ht e.symm)
      have hX6 : Ex [ob, g0] W0 w6 := (Ex.of_below h15).trans (Ex.of_grown hg6 (fun r e => by rw [← hg0.out, e]; simp))
      have hs56 := hb56.size
      refine hK _ _ ⟨hX6, ?_⟩
      clear hK K
      refine anyB_one (i := 6) (by kernel_rfl) rfl rfl ?_
      intro w7 hb7 K hK
      have B7 := (hk56 _ _ _ (by decide) (HB6.out.kept h15)).kept hb7
      have c7 := B7.cell
      have f7 := B7.frozen
      have l7 := B7.lt
      go_wp2
      refine ⟨Ex.set_in (by simp) (hX6.grown hb7) _, ?_⟩
      refine anyB_end (by kernel_rfl) ?_
      intro w8 hb8
      simp only [Calm]
      have HFin := Lib.hid (HLg.out wp w6 w7 w8 g6 cap6 _ h15 hb56 hk56 hO6 hb7 (HRw.out.2 wp hbp) hb8)
      clear c7 f7 l7 B7 hb8 hb7 hX6 hb56 hk56 hO6 hg6 hrow5 h15 hbp
      go_wp2_with fail
      refine bodyPost_end (results_none rfl _ _ _) rfl ?_
      exact ⟨rfl, HFin.out⟩
theorem log_each {a : Ar} {l : List Od} {n ob base Bz : Nat} {w : World} (hl : a.m.length = n) (h17 : n ≤ 17) (hE : armE a = 0) (ho : ∀ o ∈ l, orderE o = 0) (hln : l.length ≤ 256) (hob : Blk w ob 30 #[.slice none 0 0]) (hz : Bz ≤ ob) (hz2 : Bz ≤ base) (hb : base ≤ w.heap.size) (hbz : Bz ≤ w.heap.size) : EachI Tryz.prog a l n 49 #[.pointer (some ⟨ob, 0, none⟩)] Bz w (fun k W => base ≤ W.heap.size ∧ LogAt base ob (logL a (l.take k)) W) := by
  refine ⟨fun W hW => ⟨Nat.le_trans hb hW.size, .slice none 0 0, [], hob.kept hW, World.ownsRow_nil _ _ _ _, rfl, fun i u hu => by simp at hu⟩, fun k W W' hG hK => ⟨Nat.le_trans hG.1 hK.1, hG.2.kept hK⟩, fun k hk W b g1 g2 hG hW hgo hs h1 h2 => ?_⟩
  obtain ⟨hEb, hS4⟩ := goTo_ok hE (fun x hx => ho x (List.mem_of_mem_take hx)) hgo
  have hbl : (stepA b l[k]).m.length = n := by
    show (stepMs _ _ _ _).length = n
    rw [stepMs_len, hS4.len, hl]
  have hsn := logL_snoc (o := l[k]) hgo
  rw [← List.take_succ_eq_append_getElem hk] at hsn
  have hlen : ∀ (l : List Od) (a : Ar), (logL a l).length = l.length := by
    intro l
    induction l with
    | nil => intro a; rfl
    | cons x r ih => intro a; show (logL (stepA a x) r).length + 1 = _; rw [ih]; rfl
  refine (log1_any base Bz ob g1 g2 n a (stepA b l[k]) l[k] _ W hG.2 h2 hbl h17 hG.1 hz2 hz (by rw [hlen, List.length_take]; omega)).mono ?_
  rintro e w' ⟨rfl, hL, hB, hK⟩
  exact ⟨rfl, ⟨Nat.le_trans hG.1 hB.size, by rw [hsn]; exact hL⟩, hB, hK⟩
/-- The log's answer in memory. -/
def LogRes (w : World) (er : Int) (lg : List (List Int)) (e : Ending) (w' : World) : Prop := ∃ (v : Value) (vs : List Value), e = .returned (.tuple #[v, .int .i64 er]) ∧ w'.ownsRow w.heap.size 51 1 v lg.length vs ∧ (er ≠ 0 → v = .slice none 0 0) ∧ (∀ (i : Nat) (u : Value), vs[i]? = some u → ∃ l, lg[i]? = some l ∧ w'.ownsRow w.heap.size 49 1 u l.length (smps l)) ∧ Below w.heap.size w w'
def logV (a : Ar) (l : List Od) : List (List Int) := if wrkE a l = 0 then logL a l else []
set_option maxRecDepth 100000 in
set_option maxHeartbeats 4000000 in
theorem Log_any (B B2 : Nat) (A A2 : Option Addr) (n c n2 c2 : Nat) (a : Ar) (l : List Od) (w : World) (hM : MsAt w B A n a.m) (hB : B ≤ w.heap.size) (hF : FitA a) (hnc : n ≤ c) (hO : Reads w B2 2 A2 n2 (ods l)) (hB2 : B2 ≤ w.heap.size) (hn2 : n2 ≤ 1000) :
    Calls Tryz.prog 8 #[.agg #[.slice A n c, .int .i64 a.lo, .int .i64 a.hi, .int .i64 a.cur, .int .i64 a.lim], .slice A2 n2 c2] w (LogRes w (wrkE a l) (logV a l)) := by
  have hl := (md_at hM).1
  have h17 := hF.len
  have HC := Lib.hid (fun W (hW : Below w.heap.size w W) => checkOrders_any B B2 A A2 n c n2 c2 a l W (hM.below (hW.mono hB)) (by have := hW.size; omega) hF hnc (hO.below (hW.mono hB2)) (by have := hW.size; omega) hn2)
  have HM := Lib.hid hM
  have HO := Lib.hid hO
  obtain ⟨E1, hE1⟩ : ∃ E1, ordsE a l = E1 := ⟨_, rfl⟩
  rw [hE1] at HC
  have HE1 := Lib.hid hE1
  clear hM hO hF hE1
  go_enter Tryz.func8, Tryz.ntmps8
  go_wp2_with fail
  refine (HC.out _ bl_).mono ?_
  rintro e w1 ⟨rfl, hb1⟩
  have hs1 := hb1.size
  simp at hs1
  have bA : Blk w1 w.heap.size 36 #[.slice A n c, .int .i64 a.lo, .int .i64 a.hi, .int .i64 a.cur, .int .i64 a.lim] := bk_
  have hlow : Below w.heap.size w w1 := bl_
  have HL1 := Lib.hid hlow
  have cA := bA.cell
  have lA := bA.lt
  clear hb1 hlow HC
  by_cases h1 : E1 = 0
  · subst h1
    obtain ⟨hE, hln, ho⟩ := ords_zero HE1.out
    have hal : Below w1.heap.size w1 (w1.alloc (.cells #[.slice none 0 0] 30)) := bl_
    have HL2 := Lib.hid (HL1.out.trans (hal.mono (by omega)))
    have HFo := Lib.hid (follow_any B B2 w.heap.size A A2 n c n2 c2 49 #[.pointer (some ⟨w1.heap.size, 0, none⟩)] a l _ _ (HM.out.below (HL2.out.mono hB)) (by simp; omega) (by omega) hE (HO.out.below (HL2.out.mono hB2)) hB2 (by simp; omega) hn2 ho (enters_of Tryz.func49 (by kernel_rfl) rfl) (log_each (ob := w1.heap.size) (base := w1.heap.size + 1) hl (by omega) hE ho hln (Blk.new w1 30 #[.slice none 0 0]) (by omega) (by omega) (by simp) (by simp; omega)))
    have HWE : Hid (wrkE a l = folE a l) := Lib.hid (by unfold wrkE or0; rw [HE1.out, if_pos rfl])
    have hss : w.heap.size ≤ w1.heap.size := by omega
    clear hal hE hln ho
    go_wp2_with fail
    refine HFo.out.mono ?_
    rintro e w3 ⟨hb3, hres⟩
    have HL3 := Lib.hid (HL2.out.trans hb3)
    have hs3 := hb3.size
    simp at hs3
    rcases hres with ⟨b, g, hgo, rfl, hg, hgl, hG1, hG⟩ | ⟨k, b, hk, hgo, hne, rfl⟩
    · have hf := fol_all hgo
      rw [List.take_of_length_le (Nat.le_refl _)] at hG
      obtain ⟨v, vs, q1, q2, q3, q4⟩ := hG
      obtain ⟨A6, c6, rfl, _, _, _⟩ := own_form q2
      have HW0 := Lib.hid (HWE.out.trans hf)
      have HV : Hid (logV a l = logL a l) := Lib.hid (by unfold logV; rw [HW0.out, if_pos rfl])
      have cS := q1.cell
      have lS := q1.lt
      have HQ2 := Lib.hid q2
      have HQ4 := Lib.hid q4
      have hal : Below w3.heap.size w3 (w3.alloc (.cells #[.slice (some ⟨g, 0, none⟩) n n, .int .i64 a.lo, .int .i64 a.hi, .int .i64 a.cur, .int .i64 a.lim] 36)) := (Below.refl _ _).alloc (Nat.le_refl _) _
      have HAl := Lib.hid hal
      clear hf hgo hg hb3 hal q1 q2 q4
      go_wp2_with fail
      go_ret2
      exact ⟨_, vs, by rw [HW0.out]; rfl, by rw [HV.out]; exact row_base (own_kept HQ2.out HAl.out) (by omega), fun h => absurd HW0.out h, fun i u hu => by
        obtain ⟨l', e1, e2⟩ := HQ4.out i u hu
        exact ⟨l', by rw [HV.out]; exact e1, row_base (own_kept e2 HAl.out) (by omega)⟩, HL3.out.trans (HAl.out.mono (by omega))⟩
    · have hf := fol_no hk hgo hne
      have HW0 := Lib.hid (HWE.out.trans hf)
      have HNe := Lib.hid hne
      have hlw : Below w.heap.size w (w3.alloc (.cells #[.slice none 0 0, .int .i64 0, .int .i64 0, .int .i64 0, .int .i64 0] 36)) := HL3.out.alloc (by omega) _
      have HLw := Lib.hid hlw
      clear hf hgo hb3 hlw hne
      generalize stepE b l[k] = er at *
      have hne : (er != 0) = true := by simpa using HNe.out
      have HV : Hid (logV a l = []) := Lib.hid (by unfold logV; rw [HW0.out, if_neg HNe.out])
      go_wp2_with fail
      go_ret2
      exact ⟨.slice none 0 0, [], by rw [HW0.out]; rfl, by rw [HV.out]; exact World.ownsRow_nil _ _ _ _, fun _ => rfl, fun i u hu => by simp at hu, HLw.out⟩
  · have hne : (E1 != 0) = true := by simpa using h1
    have HW : Hid (wrkE a l = E1) := Lib.hid (by unfold wrkE or0; rw [HE1.out, if_neg h1])
    have HV : Hid (logV a l = []) := Lib.hid (by unfold logV; rw [HW.out, if_neg h1])
    go_wp2_with fail
    go_ret2
    exact ⟨.slice none 0 0, [], by rw [HW.out]; rfl, by rw [HV.out]; exact World.ownsRow_nil _ _ _ _, fun _ => rfl, fun i u hu => by simp at hu, HL1.out⟩
end Go.Proofs.YtafnebfchhmgcaaGreat
/- Mirrored of the program. -/
namespace Go.Proofs.YtafnebfchhmgcaaGreat
open Go.RowKit Go.Sort Go.Shelf
set_option linter.unusedSimpArgs false
set_option linter.unusedVariables false
attribute [local go_sem] cell_if frozen_if grow_cell
attribute [local go_sem] Oper.semAt_some
/-- The modules when some are mirrored. -/
def mirP (s : Int) (l : List Md) : List (Us l) → List Md → List Md
  | [], L => L
  | x :: r, L => mirP s l r (L.set x.k (mirM s x.m))
theorem mirP_snoc (s : Int) (l : List Md) (x : Us l) : ∀ (pre : List (Us l)) (L : List Md), mirP s l (pre ++ [x]) L = (mirP s l pre L).set x.k (mirM s x.m)
  | [], _ => rfl
  | z :: r, L => mirP_snoc s l x r _
theorem mirP_len (s : Int) (l : List Md) : ∀ (pre : List (Us l)) (L : List Md), (mirP s l pre L).length = L.length
  | [], _ => rfl
  | z :: r, L => (mirP_len s l r _).trans (List.length_set ..)
/-- Whatever has been mirrored: names and flags are as they were. -/
def SameK (l L : List Md) : Prop := ∀ k, (h : k < l.length) → ∃ y, L[k]? = some y ∧ y.n = (l[k]).n ∧ y.on = (l[k]).on ∧ y.by_ = (l[k]).by_
theorem mirP_same (s : Int) (l : List Md) : ∀ (pre : List (Us l)) (L : List Md), SameK l L → SameK l (mirP s l pre L)
  | [], _, h => h
  | z :: r, L, h => mirP_same s l r _ fun k hk => by
    by_cases e : z.k = k
    · subst e
      obtain ⟨y, hy, _⟩ := h z.k hk
      refine ⟨mirM s z.m, ?_, mirM_n _ _, mirM_on _ _, mirM_by _ _⟩
      rw [List.getElem?_set_self (List.getElem?_eq_some_iff.1 hy).1]
    · obtain ⟨y, hy, hn⟩ := h k hk
      exact ⟨y, by rw [List.getElem?_set_ne e]; exact hy, hn⟩
theorem mirP_at {s : Int} {l : List Md} (pre : List (Us l)) (z : Us l) : ∃ y, (mirP s l pre l)[z.k]? = some y ∧ (mirM s z.m).cells = y.cells.set 1 (.int .i64 (s - z.m.q)) := by
  obtain ⟨y, hy, h1, h2, h3⟩ := mirP_same s l pre l (fun k hk => ⟨l[k], List.getElem?_eq_getElem hk, rfl, rfl, rfl⟩) z.k z.h
  refine ⟨y, hy, ?_⟩
  have e : mirM s z.m = ⟨y.n, s - z.m.q, y.on, y.by_⟩ := by
    rw [show mirM s z.m = ⟨z.m.n, s - z.m.q, z.m.on, z.m.by_⟩ from by unfold mirM; rw [if_neg (by rw [z.by_]; decide)], h1, h2, h3]
    rfl
  rw [e]
  rfl
theorem mirP_app (s : Int) (l : List Md) : ∀ (p q : List (Us l)) (L : List Md), mirP s l (p ++ q) L = mirP s l q (mirP s l p L)
  | [], _, _ => rfl
  | x :: r, q, L => mirP_app s l r q _
theorem mirP_all (s : Int) (l : List Md) : ∀ k, k ≤ l.length → mirP s l (uTo l k) l = (l.take k).map (mirM s) ++ l.drop k
  | 0, _ => by simp [uTo, mirP]
  | k + 1, h => by
    have hk : k < l.length := by omega
    have ih := mirP_all s l k (by omega)
    rw [show uTo l (k + 1) = uTo l k ++ oneU l k from rfl, mirP_app, ih]
    have e1 : ((l.take k).map (mirM s)).length = k := by rw [List.length_map, List.length_take]; omega
    have e2 : ((l.take k).map (mirM s) ++ l.drop k).set k (mirM s l[k]) = (l.take (k + 1)).map (mirM s) ++ l.drop (k + 1) := by
      rw [List.set_append_right _ _ (by omega), e1, Nat.sub_self, List.drop_eq_getElem_cons hk, List.set_cons_zero, List.take_succ_eq_append_getElem hk, List.map_append]
      simp
    cases hb : (l[k]).by_ with
    | false =>
      rw [oneU_yes hk hb]
      exact e2
    | true =>
      rw [oneU_no hk hb, ← e2, mirM_by' hb]
      show _ = _
      rw [List.set_append_right _ _ (by omega), e1, Nat.sub_self, List.drop_eq_getElem_cons hk, List.set_cons_zero]
      rfl
/-- Between two modules. -/
structure MiI (w : World) (b5 g n c : Nat) (A : Option Addr) (a : Ar) (pre : List (Us a.m)) (W : World) : Prop where
  arm : Blk W w.heap.size 36 #[.slice A n c, .int .i64 a.lo, .int .i64 a.hi, .int .i64 a.cur, .int .i64 a.lim]
  res : Blk W (w.heap.size + 1) 36 #[.slice none 0 0, .int .i64 0, .int .i64 0, .int .i64 0, .int .i64 0]
  out : Blk W b5 36 #[.slice (some ⟨g, 0, none⟩) n n, .int .i64 a.lo, .int .i64 a.hi, .int .i64 a.cur, .int .i64 a.lim]
  row : Blk W g 115 (mds (mirP (a.lo + a.hi) a.m pre a.m)).toArray
  low : Below w.heap.size w W
  le : b5 + 1 + 1 ≤ W.heap.size
theorem MiI.grown {w : World} {b5 g n c : Nat} {A : Option Addr} {a : Ar} {pre : List (Us a.m)} {U V : World} {row : Option Nat} (hs : MiI w b5 g n c A a pre U) (hz : w.heap.size ≤ b5) (hg : U.grownBy V row) (hr : ∀ r, row = some r → b5 + 1 + 1 ≤ r ∧ ∀ t c, ¬ Blk U r t c) : MiI w b5 g n c A a pre V := by
  have hk : ∀ {k t cs}, Blk U k t cs → Blk V k t cs := fun h => (hg.block _ h.lt (fun e => (hr _ e.symm).2 _ _ h)).trans h
  exact ⟨hk hs.arm, hk hs.res, hk hs.out, hk hs.row, hs.low.grown hg (by have := hs.le; omega) (fun j hj => by have := (hr j hj).1; omega), Nat.le_trans hs.le hg.size⟩
end Go.Proofs.YtafnebfchhmgcaaGreat
