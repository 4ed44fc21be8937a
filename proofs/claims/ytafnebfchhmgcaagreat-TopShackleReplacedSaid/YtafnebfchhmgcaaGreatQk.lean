/- Joined texts: BS BV BW. -/
import Derived.Test.YtafnebfchhmgcaaGreatQj
import Derived.Test.YtafnebfchhmgcaaGreatQd
/- choice: the choice for an order that is not refused. -/
namespace Go.Proofs.YtafnebfchhmgcaaGreat
open Go.RowKit Go.Sort Go.Shelf
set_option linter.unusedSimpArgs false
set_option linter.unusedVariables false
attribute [local go_sem] cell_if frozen_if grow_cell
set_option maxRecDepth 100000 in
set_option maxHeartbeats 8000000 in
theorem choice_any (B : Nat) (A : Option Addr) (n c : Nat) (a : Ar) (o : Od) (w : World) (hM : MsAt w B A n a.m) (hB : B ≤ w.heap.size) (hn : n ≤ 17) (hE : armE a = 0) (ho : orderE o = 0) (hr : refE a o = 0) :
    Calls Tryz.prog 95 #[.agg #[.slice A n c, .int .i64 a.lo, .int .i64 a.hi, .int .i64 a.cur, .int .i64 a.lim], .agg #[.int .i64 o.n, .int .i64 o.c]] w (IdRes w (choiceA a o)) := by
  have hf := chF hE ho hr
  have HRk := Lib.hid (fun W (hW : Below w.heap.size w W) => ranked_any B A n c a o.c W (hM.below (hW.mono hB)) (by have := hW.size; omega) hn)
  have HOn := Lib.hid (fun W (hW : Below w.heap.size w W) => indices_any 133 #[] #[] B A n c a (fun x => x.on) W (hM.below (hW.mono hB)) (by have := hW.size; omega) (by omega) (enters_of Tryz.func133 (by kernel_rfl) rfl) (fun W' _ x _ => cho1_any x W'))
  rw [onL_us hf.fit] at HOn
  obtain ⟨rk, hrk⟩ : ∃ rk, rankL (ckA a o.c) (usL a) = rk := ⟨_, rfl⟩
  rw [hrk] at HRk hf
  have HF := Lib.hid hf
  have HMs := Lib.hid hM
  have hrl : rk.length ≤ 16 := by rw [hf.len]; exact hf.us
  have hol := hf.on
  have hn0 := hf.n0
  have hwr : IntKind.i64.wrap (o.n - ((onL a).length : Int)) = o.n - ((onL a).length : Int) := by rw [IntKind.wrap_i64]; omega
  clear hM hE ho hr hf hrk
  unfold IdRes at HRk HOn
  obtain ⟨s0, hs0⟩ : ∃ s0, onL a = s0 := ⟨_, rfl⟩
  rw [hs0] at HOn hol hwr
  have HS0 := Lib.hid hs0
  clear hs0
  go_enter Tryz.func95, Tryz.ntmps95
  go_wp2_with fail
  go_step3
  go_wp2_with fail
  refine (HRk.out _ bl_).mono ?_
  rintro e w3 ⟨v3, rfl, hr3, hb3⟩
  obtain ⟨AR, cR, rfl, hcR, _, hrd3⟩ := own_form hr3
  have hs3 := hb3.size
  simp at hs3
  have bA3 : Blk w3 w.heap.size 36 #[.slice A n c, .int .i64 a.lo, .int .i64 a.hi, .int .i64 a.cur, .int .i64 a.lim] := bk_
  have bO3 : Blk w3 (w.heap.size + 1) 45 #[.int .i64 o.n, .int .i64 o.c] := bk_
  have HL3 : Hid (Below w.heap.size w w3) := Lib.hid bl_
  have cA3 := bA3.cell
  have lA3 := bA3.lt
  clear hr3 hb3
  go_wp2_with fail
  have hlw3 : Below w3.heap.size w3 _ := (Below.refl w3.heap.size w3).alloc (Nat.le_refl _) (.cells #[.slice AR rk.length cR] 73)
  refine (HOn.out _ (HL3.out.trans (hlw3.mono HL3.out.size))).mono ?_
  rintro e w4 ⟨v4, rfl, hr4, hb4⟩
  have hs4 := hb4.size
  simp at hs4
  have bA4 : Blk w4 w.heap.size 36 #[.slice A n c, .int .i64 a.lo, .int .i64 a.hi, .int .i64 a.cur, .int .i64 a.lim] := bk_
  have bO4 : Blk w4 (w.heap.size + 1) 45 #[.int .i64 o.n, .int .i64 o.c] := bk_
  have bR4 : Blk w4 w3.heap.size 73 #[.slice AR rk.length cR] := bk_
  have HL4 : Hid (Below w.heap.size w w4) := Lib.hid ((HL3.out.trans (hlw3.mono HL3.out.size)).trans (hb4.mono (by simp; omega)))
  have hl34 : Below w3.heap.size w3 w4 := hlw3.trans (hb4.mono (by simp))
  have HR4 : Hid (Reads w4 (w3.heap.size + 1) 1 AR rk.length (rk.map (.int .i64))) := Lib.hid ((hrd3.below hl34).more (by omega))
  have HO4 : Hid (w4.ownsRow (w3.heap.size + 1) 3 1 v4 s0.length (s0.map (.int .i64))) := Lib.hid (row_base hr4 (by simp))
  obtain ⟨A4, c4, rfl, hc4, _, _⟩ := own_form hr4
  have cA4 := bA4.cell
  have lA4 := bA4.lt
  have cO4 := bO4.cell
  have lO4 := bO4.lt
  clear hr4 hb4 hrd3 hl34 hlw3 bA3 bO3 cA3 lA3 HRk HOn
  go_upto_region 5 with fail
  go_cut [9] (fun s9 wx => s9 = .int .i64 (absI (o.n - (s0.length : Int))) ∧ ChM w (w3.heap.size + 1) A n c a o w3.heap.size w4.heap.size (w4.heap.size + 1) rk s0 wx)
  case first =>
    go_wp2_with fail
    refine (absolute_any (o.n - (s0.length : Int)) _ (by omega) (by omega)).mono ?_
    rintro e w6 ⟨rfl, rfl⟩
    go_wp2_with fail
    go_meet
    case rel =>
      refine ⟨rfl, ?_⟩
      have hl : Below w4.heap.size w4 ((w4.alloc (.cells #[.slice A4 s0.length c4] 73)).alloc (.cells #[.func (.func 134) #[] #[.pointer (some ⟨w4.heap.size, 0, none⟩)]] 204)) := bl_
      exact ⟨bA4.kept hl, bO4.kept hl, ⟨AR, cR, bR4.kept hl, HR4.out.below (hl.mono hs4), hcR⟩, ⟨_, bk_, own_kept HO4.out hl⟩, bk_, HL4.out.trans (hl.mono (by omega)), by have := hl.size; omega, by omega, by omega, by omega⟩
  rename World => w5
  obtain ⟨rfl, hC5⟩ := hcut
  have HC5 := Lib.hid hC5
  have hz1 : w.heap.size + 1 + 1 ≤ w3.heap.size := hs3
  clear hC5 bA4 bO4 bR4 HL4 HR4 HO4 cA4 lA4 cO4 lO4 hs4 HL3
  generalize w4.heap.size = b6 at *
  generalize w3.heap.size = b5 at *
  clear hs3 hc4 hcR
  go_upto_block 0 with fail
  go_cut [10] (fun s10 wx => ∃ set, Hid (ChM w (b5 + 1) A n c a o b5 b6 (b6 + 1) rk set wx) ∧ Hid (POut a o set))
  case first =>
    go_wp2_with fail
    go_loopw [10] (fun s10 wr => ∃ set, Hid (ChM w (b5 + 1) A n c a o b5 b6 (b6 + 1) rk set wr) ∧ Hid (PIn a o set)) (fun _ wr => o.n.toNat - boxLen wr b6)
    case atStart => exact ⟨s0, HC5, Lib.hid (HS0.out ▸ PIn.start HF.out)⟩
    case round =>
      obtain ⟨set, HC, HP⟩ := hrel
      have hbl := Lib.hid HC.out.boxLen
      have hsl := HP.out.len HF.out
      obtain ⟨AR, capR, r1, r2, r3⟩ := HC.out.rr
      obtain ⟨v, s1, s2⟩ := HC.out.sr
      obtain ⟨A6, c6, rfl, hc6, _, _⟩ := own_form s2
      have g6 := HC.out.g6
      have hle := HC.out.le
      have hord := HC.out.ord
      have cO := hord.cell
      have lO := hord.lt
      have cS := s1.cell
      have lS := s1.lt
      by_cases hlt : set.length < o.n.toNat
      · have h1 : (set.length : Int) < o.n := by omega
        obtain ⟨i, ei, eg, hP'⟩ := HP.out.step HF.out hlt
        have HFd := Lib.hid (HC.out.find (cR := capR) (by omega) (by omega) r2)
        rw [ei] at HFd
        have HP' := Lib.hid hP'
        have cR := r1.cell
        have lR := r1.lt
        generalize bestL (ckA a o.c) (wout (usL a) set) = x at *
        have hil : i < rk.length := (List.getElem?_eq_some_iff.1 eg).1
        have e3 : rk[i] = x := (List.getElem?_eq_some_iff.1 eg).2
        obtain ⟨_, hat⟩ := int_at r2
        obtain ⟨bb, oo, eA, hbb, z0⟩ := hat i hil
        rw [e3] at z0
        subst eA
        have HZ0 := Lib.hid z0
        have R1 := Lib.hid r1
        have S1 := Lib.hid s1
        have S2' := Lib.hid s2
        clear hat r2 eg ei e3 hP' z0 r1 s1 s2 hord
        go_wp2_with fail
        refine HFd.out.mono ?_
        rintro e w1 ⟨rfl, hb1⟩
        have HC1 := Lib.hid (HC.out.kept hb1)
        have hs1 := hb1.size
        have z1 := (hb1.cell (p := ⟨bb, oo + i, none⟩) (by show bb < _; omega)).trans HZ0.out
        have R11 := R1.out.kept hb1
        have S11 := S1.out.kept hb1
        have HB6 := Lib.hid S11
        have S2 := Lib.hid (own_kept S2'.out hb1)
        have hrl' : (i : Int) < rk.length := by omega
        have cR1 := R11.cell
        have lR1 := R11.lt
        have lS1 := S11.lt
        obtain ⟨g0, hg00⟩ : ∃ g0, (Value.slice A6 set.length c6).ownBlock.getD b6 = g0 := ⟨_, rfl⟩
        have hg0 := Lib.hid hg00
        have hg0l : b5 + 1 ≤ g0 := by
          rw [← hg00]
          cases hob : (Value.slice A6 set.length c6).ownBlock with
          | none => exact g6
          | some r => exact (row_base_lt S2.out r hob).1
        clear hb1 cO lO cS lS cR lR R1 S1 S2' HZ0 R11 S11 hg00 HFd
        have hbw : bb < w1.heap.size := by omega
        go_wp2_with fail
        (refine wp_region_calm [b6, g0] [1, 2, 3, 4] 4 (by kernel_rfl) rfl (by kernel_rfl) (by kernel_rfl) (by kernel_rfl) ?_; simp only [pickB, List.filterMap_cons, List.filterMap_nil, List.getElem?_toArray, List.getElem?_cons_zero, List.getElem?_cons_succ]; (repeat (first | ((first | (with_reducible refine quietL_plain rfl (fun K hK => ?_)) | (with_reducible refine quietL_want (by with_unfolding_all rfl) (fun K hK => ?_))); (apply Exists.intro; refine ⟨fun wx hx => ?_, ?_⟩; (· (have hcx := ifs_ex hx); simp [go_sem, *, ↓IntWalk.iteOmega] <;> (first | rfl | exact ⟨rfl, rfl⟩ | fail)); (simp only [Act.put, List.setIfInBounds_toArray, List.set_cons_zero, List.set_cons_succ]; refine hK _ ?_; clear hK K))) | ((with_reducible refine quietL_skip (by with_unfolding_all rfl) ?_); simp only [Act.put, List.setIfInBounds_toArray, List.set_cons_zero, List.set_cons_succ]))); refine quietL_nil ?_)
        refine anyB_two (i := 0) (j := 5) (by kernel_rfl) rfl rfl rfl rfl ?_ ?_
        · intro w2 hb2 K hK
          have B62 := HB6.out.kept hb2
          have c62 := B62.cell
          have l62 := B62.lt
          have hs2 := hb2.size
          go_wp2
          refine ⟨Ex.of_below hb2, ?_⟩
          refine anyB_one (i := 5) (by kernel_rfl) rfl rfl ?_
          intro w3' hb3 K hK
          have hs3 := hb3.size
          go_wp2
          have H1c : Hid (Below w1.heap.size w1 (w3'.alloc (.cells #[.int .i64 x] 3))) := Lib.hid ((hb2.trans (hb3.mono hs2)).alloc (by omega) _)
          refine ⟨Ex.of_below H1c.out, ?_⟩
          have HLit := Lib.hid (Blk.new w3' 3 #[.int .i64 x])
          clear hb2 hb3 c62 l62 B62
          refine anyB_one (i := 6) (by kernel_rfl) rfl rfl ?_
          intro w5' hb5 K hK
          have h15 : Below w1.heap.size w1 w5' := H1c.out.trans (hb5.mono H1c.out.size)
          have hs15 := h15.size
          have hrow5 := own_kept S2.out h15
          refine wp_appB 73 3 1 8 elemInt (.tmp 38) (.tmp 43) rfl (b5 + 1) (.slice A6 set.length c6) set.length _ rfl hrow5 w3'.heap.size 1 #[.int .i64 x] rfl (HLit.out.kept hb5) rfl ?_ (by decide) ?_ ?_ ?_ ?_
          · intro u hu; simp at hu; subst hu; rfl
          · unfold maxLen; omega
          · omega
          · omega
          intro g6 cap6 w6 hO6 hg6 _
          obtain ⟨h56, hk56⟩ := app_keeps hrow5 (by omega) hg6
          have hX6 : Ex [b6, g0] w1 w6 := (Ex.of_below h15).trans (Ex.of_grown hg6 (fun r e => by rw [← hg0.out, e]; simp))
          have hs56 := h56.size
          refine hK _ _ ⟨hX6, ?_⟩
          clear hK K
          refine anyB_one (i := 7) (by kernel_rfl) rfl rfl ?_
          intro w7 hb7 K hK
          have B7 := (hk56 _ _ _ (by decide) (HB6.out.kept h15)).kept hb7
          have c7 := B7.cell
          have f7 := B7.frozen
          have l7 := B7.lt
          go_wp2
          refine ⟨Ex.set_in (by simp) (hX6.grown hb7) _, ?_⟩
          refine anyB_end (by kernel_rfl) ?_
          intro w8 hb8
          simp only [Calm]
          have HN := Lib.hid (((HC1.out.kept h15).put (W' := w7) (v' := .slice (some ⟨g6, 0, none⟩) (set.length + 1) cap6) (set' := set ++ [x]) (h56.trans (hb7.mono (by omega))) (fun k t c ht h => (hk56 k t c ht h).kept hb7) (by rw [List.length_append, List.map_append]; exact own_kept hO6 hb7)).kept hb8)
          clear c7 f7 l7 B7 hb8 hb7 hX6 h56 hk56 hO6 hg6 hrow5 h15 hb5
          go_wp2_with fail
          go_roundw
          case rel => exact ⟨set ++ [x], HN, HP'⟩
          case measure =>
            rw [HN.out.boxLen, hbl.out]
            simp
            omega
        · intro w3' hb3 K hK
          have hs3 := hb3.size
          go_wp2
          have H1b : Hid (Below w1.heap.size w1 (w3'.alloc (.cells #[.int .i64 x] 3))) := Lib.hid (hb3.alloc (by omega) _)
          refine ⟨Ex.of_below H1b.out, ?_⟩
          refine anyB_one (i := 0) (by kernel_rfl) rfl rfl ?_
          intro w2 hb2 K hK
          have B62 := ((HB6.out.kept hb3).alloc (.cells #[.int .i64 x] 3)).kept hb2
          have c62 := B62.cell
          have l62 := B62.lt
          go_wp2
          have H1c : Hid (Below w1.heap.size w1 w2) := Lib.hid (H1b.out.trans (hb2.mono H1b.out.size))
          refine ⟨Ex.of_below H1c.out, ?_⟩
          have HLit := Lib.hid ((Blk.new w3' 3 #[.int .i64 x]).kept hb2)
          clear hb2 hb3 c62 l62 B62
          refine anyB_one (i := 6) (by kernel_rfl) rfl rfl ?_
          intro w5' hb5 K hK
          have h15 : Below w1.heap.size w1 w5' := H1c.out.trans (hb5.mono H1c.out.size)
          have hs15 := h15.size
          have hrow5 := own_kept S2.out h15
          refine wp_appB 73 3 1 8 elemInt (.tmp 38) (.tmp 43) rfl (b5 + 1) (.slice A6 set.length c6) set.length _ rfl hrow5 w3'.heap.size 1 #[.int .i64 x] rfl (HLit.out.kept hb5) rfl ?_ (by decide) ?_ ?_ ?_ ?_
          · intro u hu; simp at hu; subst hu; rfl
          · unfold maxLen; omega
          · omega
          · omega
          intro g6 cap6 w6 hO6 hg6 _
          obtain ⟨h56, hk56⟩ := app_keeps hrow5 (by omega) hg6
          have hX6 : Ex [b6, g0] w1 w6 := (Ex.of_below h15).trans (Ex.of_grown hg6 (fun r e => by rw [← hg0.out, e]; simp))
          have hs56 := h56.size
          refine hK _ _ ⟨hX6, ?_⟩
          clear hK K
          refine anyB_one (i := 7) (by kernel_rfl) rfl rfl ?_
          intro w7 hb7 K hK
          have B7 := (hk56 _ _ _ (by decide) (HB6.out.kept h15)).kept hb7
          have c7 := B7.cell
          have f7 := B7.frozen
          have l7 := B7.lt
          go_wp2
          refine ⟨Ex.set_in (by simp) (hX6.grown hb7) _, ?_⟩
          refine anyB_end (by kernel_rfl) ?_
          intro w8 hb8
          simp only [Calm]
          have HN := Lib.hid (((HC1.out.kept h15).put (W' := w7) (v' := .slice (some ⟨g6, 0, none⟩) (set.length + 1) cap6) (set' := set ++ [x]) (h56.trans (hb7.mono (by omega))) (fun k t c ht h => (hk56 k t c ht h).kept hb7) (by rw [List.length_append, List.map_append]; exact own_kept hO6 hb7)).kept hb8)
          clear c7 f7 l7 B7 hb8 hb7 hX6 h56 hk56 hO6 hg6 hrow5 h15 hb5
          go_wp2_with fail
          go_roundw
          case rel => exact ⟨set ++ [x], HN, HP'⟩
          case measure =>
            rw [HN.out.boxLen, hbl.out]
            simp
            omega
      · have h1 : ¬ (set.length : Int) < o.n := by omega
        go_wp2_with fail
        go_meet
        case rel => exact ⟨set, HC, Lib.hid (HP.out.fin HF.out hlt)⟩
  rename World => w10
  obtain ⟨set1, HC10, HP10⟩ := hcut
  clear HC5
  go_upto_block 2 with fail
  go_cut [12] (fun s12 wx => ∃ set, Hid (ChM w (b5 + 1) A n c a o b5 b6 (b6 + 1) rk set wx) ∧ Hid (set = firstSet (ckA a o.c) (usL a) (onL a) o.n.toNat))
  case first =>
    go_wp2_with fail
    go_loopw [12] (fun s12 wr => ∃ set, Hid (ChM w (b5 + 1) A n c a o b5 b6 (b6 + 1) rk set wr) ∧ Hid (POut a o set)) (fun _ wr => boxLen wr b6)
    case atStart => exact ⟨set1, HC10, HP10⟩
    case round =>
      obtain ⟨set, HC, HP⟩ := hrel
      have hbl := Lib.hid HC.out.boxLen
      have hsl := HP.out.len HF.out
      obtain ⟨v, s1, s2⟩ := HC.out.sr
      obtain ⟨A6, c6, rfl, hc6, _, _⟩ := own_form s2
      have hle := HC.out.le
      have hord := HC.out.ord
      have cO := hord.cell
      have lO := hord.lt
      have cS := s1.cell
      have lS := s1.lt
      by_cases hlt : o.n.toNat < set.length
      · have h1 : o.n < (set.length : Int) := by omega
        obtain ⟨ew, hwl, hP'⟩ := HP.out.step HF.out hlt
        have HW := Lib.hid (HC.out.worst (by omega) (by omega))
        rw [ew] at HW
        have HP' := Lib.hid hP'
        generalize worstL (ckA a o.c) set = x at *
        have hne : set ≠ [] := by intro e; rw [e] at hlt; simp at hlt
        have hb1 : Below wr.heap.size wr (wr.alloc (.cells #[.int .i64 x] 3)) := bl_
        have HD := Lib.hid (del_row 139 (enters_of Tryz.func139 (by kernel_rfl) rfl) eqi5_any s2 hle hb1 (Blk.new wr 3 #[.int .i64 x]) (Nat.le_refl _) hne (by omega))
        have HC1 := Lib.hid (HC.out.kept hb1)
        have HS1 := Lib.hid (s1.kept hb1)
        clear s1 s2 hb1 hP' ew hne hord
        go_wp2_with fail
        refine HW.out.mono ?_
        rintro e w1 ⟨rfl, rfl⟩
        go_wp2_with fail
        refine HD.out.mono ?_
        rintro e w2 ⟨v', rfl, hr2, hb2, hk2⟩
        obtain ⟨A7, c7, rfl, _, _, _⟩ := own_form hr2
        have S2 := hk2 _ _ _ (by decide) HS1.out
        have HN := Lib.hid (HC1.out.put hb2 hk2 hr2)
        have c2 := S2.cell
        have l2 := S2.lt
        have f2 := S2.frozen
        clear hr2 hb2 hk2 HS1 HD HW cO lO cS lS
        go_wp2_with fail
        go_roundw
        case rel => exact ⟨_, HN, HP'⟩
        case measure =>
          rw [HN.out.boxLen, hbl.out]
          omega
      · have h1 : ¬ o.n < (set.length : Int) := by omega
        go_wp2_with fail
        go_meet
        case rel => exact ⟨set, HC, Lib.hid (HP.out.fin HF.out hlt)⟩
  rename World => w20
  obtain ⟨set2, HC20, hset2⟩ := hcut
  clear HC10 HP10
  go_upto_region 13 with fail
  go_step3
  go_upto_block 4 with fail
  go_cut [9, 13, 14, 15] (fun s9 s13 s14 s15 wx => Hid (ChM w (b5 + 1) A n c a o b5 b6 (b6 + 1) rk (setU a o) wx))
  case first =>
    go_wp2_with fail
    go_loopw [9, 13, 14, 15] (fun s9 s13 s14 s15 wr => ∃ (set : List Int) (f ch : Nat), s9 = .int .i64 ch ∧ Hid (ch = chgN (onL a) set) ∧ ch ≤ 1000 ∧ Hid (ChM w (b5 + 1) A n c a o b5 b6 (b6 + 1) rk set wr) ∧ Hid (ExI (ckA a o.c) (usL a) (onL a) o.n.toNat a.lim f set)) (fun s9 _ _ _ wr => (a.lim - intOf s9).toNat)
    case atStart =>
      have e := ex_chg HF.out hset2.out
      rw [HS0.out] at e
      refine ⟨set2, _, chgN (onL a) set2, by rw [HS0.out, e], Lib.hid rfl, ?_, HC20, Lib.hid (ex_start HF.out hset2.out)⟩
      rw [HS0.out]
      unfold absI at e
      omega
    case round =>
      obtain ⟨set, f, ch, rfl, hch, hch1, HC, HX⟩ := hrel
      have hsl : set.length ≤ 16 := by have := HX.out.len; omega
      obtain ⟨AR, capR, r1, r2, r3⟩ := HC.out.rr
      have HFd := Lib.hid (HC.out.find (cR := capR) (by omega) (by omega) r2)
      have hcs := ex_cases HF.out HX.out
      have hlim := HF.out.fit.lim
      obtain ⟨ib, hib⟩ : ∃ ib, idxP (fun x => !(hasI set x)) 0 rk = ib := ⟨_, rfl⟩
      obtain ⟨io, hio⟩ : ∃ io, lastIn set (-1) rk = io := ⟨_, rfl⟩
      rw [hib] at HFd hcs
      rw [hio, ← hch.out] at hcs
      have HCS := Lib.hid hcs
      have cR := r1.cell
      have lR := r1.lt
      have HRd := Lib.hid r2
      have hle := HC.out.le
      clear hcs r1 r2 hib
      go_wp2_with fail
      refine HFd.out.mono ?_
      rintro e w1 ⟨rfl, hb1⟩
      have HC1 := Lib.hid (HC.out.kept hb1)
      have HW := Lib.hid (HC1.out.worst (by omega) (by omega))
      rw [hio] at HW
      have hs1 := hb1.size
      have HRd1 := Lib.hid (HRd.out.below (hb1.mono hle))
      have S1 := Lib.hid HC1.out.sr
      have hlow : Below w.heap.size w w1 := HC1.out.low
      have HLow := Lib.hid hlow
      clear cR lR hb1 hio HFd HRd
      go_wp2_with fail
      refine HW.out.mono ?_
      rintro e w2 ⟨rfl, rfl⟩
      clear HW
      go_upto_region 14 with fail
      have hbq : Below w1.heap.size w1 (w1.alloc (.cells #[.int .i64 io] 3)) := bl_
      have HCq := Lib.hid (HC1.out.kept hbq)
      have cA := HC1.out.arm.cell
      have lA := HC1.out.arm.lt
      have hw2 : IntKind.i64.wrap ((ch : Int) + 2) = (ch : Int) + 2 := by rw [IntKind.wrap_i64]; omega
      rcases HCS.out with ⟨rfl, hfin⟩ | ⟨i, k, rfl, hk1, hk, hcs2⟩
      · clear HCS
        go_wp2_with fail
        go_meet
        case rel => rw [hfin]; exact HCq
      · clear HCS
        rcases hcs2 with ⟨rfl, hfin⟩ | ⟨j, rfl, hj, hne, hcs3⟩
        · go_wp2_with fail
          go_meet
          case rel => rw [hfin]; exact HCq
        · rcases hcs3 with ⟨hl, hfin⟩ | ⟨hl, hq, hfin⟩ | ⟨hl, hq, g, hX2, hch2⟩
          · go_wp2_with fail
            go_meet
            case rel => rw [hfin]; exact HCq
          · skip
            obtain ⟨hlM, hatM⟩ := md_at (HMs.out.below (HLow.out.mono hB))
            obtain ⟨bm, om, eA, hbm, z0, z1, z2, z3⟩ := hatM k hk
            obtain ⟨bm', om', eA', _, y0, y1, y2, y3⟩ := hatM j hj
            rw [eA] at eA'
            cases eA'
            obtain ⟨AR', capR', r1, r2', _⟩ := HC1.out.rr
            have hil : i < rk.length := (List.getElem?_eq_some_iff.1 hk1).1
            have e3 : rk[i] = (k : Int) := (List.getElem?_eq_some_iff.1 hk1).2
            obtain ⟨_, hatR⟩ := int_at r2'
            obtain ⟨br, or', eR, hbr, zr⟩ := hatR i hil
            rw [e3] at zr
            subst eR
            have hkn : k < n := by omega
            have hjn : j < n := by omega
            rw [ckA_q hk, ckA_q hj] at hq
            have HCg := Lib.hid (fun W => charge_any a.m[k] a.m[j] o.c W)
            have cR1 := r1.cell
            have lR1 := r1.lt
            have cO1 := HC1.out.ord.cell
            have lO1 := HC1.out.ord.lt
            have hle1 := HC1.out.le
            have HR1 := Lib.hid r1
            have HR2 := Lib.hid zr
            clear hatM hatR e3 r1 r2' hlM
            generalize a.m[k] = x at *
            generalize a.m[j] = z at *
            obtain ⟨xn, xq, xo, xb⟩ := x
            obtain ⟨zn, zq, zo, zb⟩ := z
            dsimp only at z0 z1 z2 z3 y0 y1 y2 y3 HCg hq
            generalize chgC xq zq o.c = rr at *
            have hbm1 : bm < w1.heap.size := by omega
            have hbr1 : br < w1.heap.size := by omega
            subst eA
            go_wp2_with fail
            (refine wp_region_calm [] [0, 1, 2, 3, 4, 5, 6, 7, 8, 9, 10, 11, 12, 13, 14, 15, 16] 1 (by kernel_rfl) rfl (by kernel_rfl) (by kernel_rfl) (by kernel_rfl) ?_; simp only [pickB, List.filterMap_cons, List.filterMap_nil, List.getElem?_toArray, List.getElem?_cons_zero, List.getElem?_cons_succ]; (repeat (first | ((first | (with_reducible refine quietL_plain rfl (fun K hK => ?_)) | (with_reducible refine quietL_want (by with_unfolding_all rfl) (fun K hK => ?_))); (apply Exists.intro; refine ⟨fun wx hx => ?_, ?_⟩; (· (have hcx := ifs_ex hx); simp [go_sem, *, ↓IntWalk.iteOmega] <;> (first | rfl | exact ⟨rfl, rfl⟩ | (with_reducible exact calls_B (HCg.out _)))); (simp only [Act.put, List.setIfInBounds_toArray, List.set_cons_zero, List.set_cons_succ]; refine hK _ ?_; clear hK K))) | ((with_reducible refine quietL_skip (by with_unfolding_all rfl) ?_); simp only [Act.put, List.setIfInBounds_toArray, List.set_cons_zero, List.set_cons_succ]))); refine quietL_nil ?_)
            (refine anyB_one (i := 17) (by kernel_rfl) rfl rfl ?_; intro w4 hb4 K hK; have hs4 := hb4.size; (try simp at hs4); go_wp2; refine ⟨xs_, ?_⟩)
            (refine anyB_end (by kernel_rfl) ?_; intro w5 hb5; have hs5 := hb5.size; (try simp at hs5); simp only [Calm])
            have HC5 := Lib.hid (HCq.out.kept (bl_ : Below (w1.alloc (.cells #[.int .i64 (j : Int)] 3)).heap.size _ w5))
            go_wp2_with fail
            go_meet
            case rel => rw [hfin]; exact HC5
          · skip
            obtain ⟨hlM, hatM⟩ := md_at (HMs.out.below (HLow.out.mono hB))
            obtain ⟨bm, om, eA, hbm, z0, z1, z2, z3⟩ := hatM k hk
            obtain ⟨bm', om', eA', _, y0, y1, y2, y3⟩ := hatM j hj
            rw [eA] at eA'
            cases eA'
            obtain ⟨AR', capR', r1, r2', _⟩ := HC1.out.rr
            have hil : i < rk.length := (List.getElem?_eq_some_iff.1 hk1).1
            have e3 : rk[i] = (k : Int) := (List.getElem?_eq_some_iff.1 hk1).2
            obtain ⟨_, hatR⟩ := int_at r2'
            obtain ⟨br, or', eR, hbr, zr⟩ := hatR i hil
            rw [e3] at zr
            subst eR
            have hkn : k < n := by omega
            have hjn : j < n := by omega
            rw [ckA_q hk, ckA_q hj] at hq
            have HCg := Lib.hid (fun W => charge_any a.m[k] a.m[j] o.c W)
            have cR1 := r1.cell
            have lR1 := r1.lt
            have cO1 := HC1.out.ord.cell
            have lO1 := HC1.out.ord.lt
            have hle1 := HC1.out.le
            have HR1 := Lib.hid r1
            have HR2 := Lib.hid zr
            clear hatM hatR e3 r1 r2' hlM
            generalize a.m[k] = x at *
            generalize a.m[j] = z at *
            obtain ⟨xn, xq, xo, xb⟩ := x
            obtain ⟨zn, zq, zo, zb⟩ := z
            dsimp only at z0 z1 z2 z3 y0 y1 y2 y3 HCg hq
            generalize chgC xq zq o.c = rr at *
            have hbm1 : bm < w1.heap.size := by omega
            have hbr1 : br < w1.heap.size := by omega
            subst eA
            go_wp2_with fail
            (refine wp_region_calm [] [0, 1, 2, 3, 4, 5, 6, 7, 8, 9, 10, 11, 12, 13, 14, 15, 16] 1 (by kernel_rfl) rfl (by kernel_rfl) (by kernel_rfl) (by kernel_rfl) ?_; simp only [pickB, List.filterMap_cons, List.filterMap_nil, List.getElem?_toArray, List.getElem?_cons_zero, List.getElem?_cons_succ]; (repeat (first | ((first | (with_reducible refine quietL_plain rfl (fun K hK => ?_)) | (with_reducible refine quietL_want (by with_unfolding_all rfl) (fun K hK => ?_))); (apply Exists.intro; refine ⟨fun wx hx => ?_, ?_⟩; (· (have hcx := ifs_ex hx); simp [go_sem, *, ↓IntWalk.iteOmega] <;> (first | rfl | exact ⟨rfl, rfl⟩ | (with_reducible exact calls_B (HCg.out _)))); (simp only [Act.put, List.setIfInBounds_toArray, List.set_cons_zero, List.set_cons_succ]; refine hK _ ?_; clear hK K))) | ((with_reducible refine quietL_skip (by with_unfolding_all rfl) ?_); simp only [Act.put, List.setIfInBounds_toArray, List.set_cons_zero, List.set_cons_succ]))); refine quietL_nil ?_)
            (refine anyB_one (i := 17) (by kernel_rfl) rfl rfl ?_; intro w4 hb4 K hK; have hs4 := hb4.size; (try simp at hs4); go_wp2; refine ⟨xs_, ?_⟩)
            (refine anyB_end (by kernel_rfl) ?_; intro w5 hb5; have hs5 := hb5.size; (try simp at hs5); simp only [Calm])
            have h15 : Below w1.heap.size w1 w5 := bl_
            have hBq : Blk w5 w1.heap.size 3 #[.int .i64 (j : Int)] := ((Blk.new w1 3 #[.int .i64 (j : Int)]).kept hb4).kept hb5
            obtain ⟨v, s1, s2⟩ := HC1.out.sr
            obtain ⟨A6, c6, rfl, _, _, _⟩ := own_form s2
            have HD := Lib.hid (del_row 141 (enters_of Tryz.func141 (by kernel_rfl) rfl) eqi6_any s2 hle1 h15 hBq (Nat.le_refl _) hne (by omega))
            have HC5 := Lib.hid (HC1.out.kept h15)
            have S5 := Lib.hid (s1.kept h15)
            have R5 := Lib.hid (HR1.out.kept h15)
            have zr5 := (h15.cell (p := ⟨br, or' + i, none⟩) hbr1).trans HR2.out
            have hs15 := h15.size
            have hwl : (wout set [(j : Int)]).length ≤ set.length := wout_le _ _
            have cS5 := S5.out.cell
            have lS5 := S5.out.lt
            have cR5 := R5.out.cell
            have lR5 := R5.out.lt
            have hwr5 : IntKind.i64.wrap ((ch : Int) + 2) = (ch : Int) + 2 := hw2
            clear cR1 lR1 cO1 lO1 cA lA z0 z1 z2 z3 y0 y1 y2 y3 hb4 hb5 h15 hBq s1 s2
            go_wp2_with fail
            refine HD.out.mono ?_
            rintro e w6 ⟨v', rfl, hr6, hb6, hk6⟩
            obtain ⟨A7, c7, rfl, _, _, _⟩ := own_form hr6
            have hb7 : Below w6.heap.size w6 (w6.alloc (.cells #[.int .i64 (k : Int)] 3)) := bl_
            have HR7 := Lib.hid (own_kept hr6 hb7)
            have hs6 := hb6.size
            have HK6 := Lib.hid hk6
            have HB6 := Lib.hid hb6
            have S6 := Lib.hid (hk6 _ _ _ (by decide) S5.out)
            clear hr6 hb6 hk6 hb7 cS5 lS5 cR5 lR5
            go_wp2_with (at_builtin; refine wpList_appB 73 3 1 8 elemInt rfl (.tmp 99) (.tmp 101) rfl (b5 + 1) (.slice A7 (wout set [(j : Int)]).length c7) (wout set [(j : Int)]).length _ rfl HR7.out w6.heap.size 1 #[.int .i64 (k : Int)] rfl (Blk.new w6 _ _) rfl ?h1 (by decide) ?h3 ?h4 ?h5 ?_)
            case h1 => first | rfl | (intro u hu; simp at hu; subst hu; rfl)
            case h3 => unfold maxLen; omega
            case h4 => omega
            case h5 => simp; omega
            intro g8 cap8 w8 hO8 hg8 _
            obtain ⟨h78, hk78⟩ := app_keeps HR7.out (by simp; omega) hg8
            have S8 := hk78 _ _ _ (by decide) (S6.out.alloc (.cells #[.int .i64 (k : Int)] 3))
            have hb68 : Below (b5 + 1) w5 w8 := (HB6.out.alloc (by omega) _).trans h78
            have HN := Lib.hid (HC5.out.put (set' := exch set j k) (v' := .slice (some ⟨g8, 0, none⟩) ((wout set [(j : Int)]).length + 1) cap8) hb68 (fun t u cc ht h => hk78 _ _ _ ht ((HK6.out _ _ _ ht h).alloc _)) (by unfold exch; rw [List.length_append, List.map_append]; exact hO8))
            have c8 := S8.cell
            have l8 := S8.lt
            have f8 := S8.frozen
            have HX2 := Lib.hid hX2
            have hch3 : Hid (ch + 2 = chgN (onL a) (exch set j k)) := Lib.hid (by rw [hch2])
            have hw9 : IntKind.i64.wrap ((ch : Int) + 2) = (ch : Int) + 2 := hw2
            clear hO8 hg8 h78 hk78 S8 hb68 HK6 HB6 S6 HR7 hX2 hch2
            go_wp2_with fail
            go_roundw
            case rel => exact ⟨exch set j k, g, ch + 2, by go_num, hch3, by omega, HN, HX2⟩
            case measure => simp [intOf]; omega
  rename World => w30
  obtain ⟨v, s1, s2⟩ := hcut.out.sr
  obtain ⟨A6, c6, rfl, _, _, _⟩ := own_form s2
  have hsU : (setU a o).length ≤ 16 := by rw [(setU_spec HF.out.fit hn0.1 HF.out.ref).2.1]; omega
  have HSo := Lib.hid (SortV_any (b5 + 1) _ (setU a o) w30 s2 hcut.out.le (by omega))
  have cS := s1.cell
  have lS := s1.lt
  have HS1 := Lib.hid s1
  have HLw := Lib.hid hcut.out.low
  have hCh : Hid (choiceA a o = sortI (setU a o)) := Lib.hid rfl
  have hpl := (sortI_perm (setU a o)).length_eq
  rw [← hCh.out] at HSo hpl
  clear s1 s2 hcut HC20 hset2
  go_wp2_with fail
  refine HSo.out.mono ?_
  rintro e w31 ⟨rfl, hr, hb, hk⟩
  have S := hk _ _ _ (by decide) HS1.out
  have cS1 := S.cell
  have lS1 := S.lt
  have HR := Lib.hid hr
  have HB := Lib.hid hb
  clear hr hb hk cS lS HS1 HSo
  go_wp2_with fail
  (try rw [Exit.noGoto_ret])
  go_ret
  exact ⟨_, rfl, by rw [hpl]; exact row_base HR.out (by omega), HLw.out.trans (HB.out.mono (by omega))⟩
end Go.Proofs.YtafnebfchhmgcaaGreat
/- Choose of the program. -/
namespace Go.Proofs.YtafnebfchhmgcaaGreat
open Go.RowKit Go.Sort Go.Shelf
set_option linter.unusedSimpArgs false
set_option linter.unusedVariables false
attribute [local go_sem] cell_if frozen_if grow_cell
def choE (a : Ar) (o : Od) : Int := or0 (firstE [armE a, orderE o]) (refE a o)
def choL (a : Ar) (o : Od) : List Int := if choE a o = 0 then choiceA a o else []
def ChoRes (w : World) (er : Int) (zs : List Int) (e : Ending) (w' : World) : Prop := ∃ v, e = .returned (.tuple #[v, .int .i64 er]) ∧ w'.ownsRow w.heap.size 3 1 v zs.length (zs.map (.int .i64)) ∧ (er ≠ 0 → v = .slice none 0 0) ∧ Below w.heap.size w w'
set_option maxRecDepth 100000 in
set_option maxHeartbeats 4000000 in
theorem Choose_any (B : Nat) (A : Option Addr) (n c : Nat) (a : Ar) (o : Od) (w : World) (hM : MsAt w B A n a.m) (hB : B ≤ w.heap.size) (hF : FitA a) (hnc : n ≤ c) :
    Calls Tryz.prog 38 #[.agg #[.slice A n c, .int .i64 a.lo, .int .i64 a.hi, .int .i64 a.cur, .int .i64 a.lim], .agg #[.int .i64 o.n, .int .i64 o.c]] w (ChoRes w (choE a o) (choL a o)) := by
  have hl := (md_at hM).1
  have h17 := hF.len
  have HC := Lib.hid (fun W (hW : Below w.heap.size w W) => CheckArm_any B A n c a W (hM.below (hW.mono hB)) (by have := hW.size; omega) hF hnc)
  have HMs := Lib.hid hM
  obtain ⟨E1, hE1⟩ : ∃ E1, firstE [armE a, orderE o] = E1 := ⟨_, rfl⟩
  have HE1 := Lib.hid hE1
  have HOk : Hid (E1 = 0 → armE a = 0 ∧ orderE o = 0) := Lib.hid (fun h => by
    rw [h, firstE_cons, firstE_cons] at hE1
    obtain ⟨q1, q2⟩ := or0_zero hE1
    exact ⟨q1, (or0_zero q2).1⟩)
  clear hM hF hE1
  go_enter Tryz.func38, Tryz.ntmps38
  go_wp2_with fail
  refine wp_world ?_
  intro W0 hW0
  have hb0 : Below w.heap.size w W0 := by rw [hW0]; exact bl_
  have bA0 : Blk W0 w.heap.size 36 #[.slice A n c, .int .i64 a.lo, .int .i64 a.hi, .int .i64 a.cur, .int .i64 a.lim] := by rw [hW0]; exact bk_
  have bO0 : Blk W0 (w.heap.size + 1) 45 #[.int .i64 o.n, .int .i64 o.c] := by rw [hW0]; exact bk_
  have HC1 := Lib.hid (fun W (hW : Below W0.heap.size W0 W) => HC.out W (hb0.trans (hW.mono hb0.size)))
  have cA0 := bA0.cell
  have lA0 := bA0.lt
  have cO0 := bO0.cell
  have lO0 := bO0.lt
  skip
  clear hW0
  (refine wp_region_calm [] [0, 1, 2, 3] 3 (by kernel_rfl) rfl (by kernel_rfl) (by kernel_rfl) (by kernel_rfl) ?_; simp only [pickB, List.filterMap_cons, List.filterMap_nil, List.getElem?_toArray, List.getElem?_cons_zero, List.getElem?_cons_succ]; (repeat (first | ((first | (with_reducible refine quietL_plain rfl (fun K hK => ?_)) | (with_reducible refine quietL_want (by with_unfolding_all rfl) (fun K hK => ?_))); (apply Exists.intro; refine ⟨fun wx hx => ?_, ?_⟩; (· (have hcx := ifs_ex hx); simp [go_sem, *, ↓IntWalk.iteOmega] <;> (first | rfl | exact ⟨rfl, rfl⟩ | (first | (with_reducible exact calls_B (HC1.out _ (Ex.low hx))) | (with_reducible exact calls_B (ocheck_any o _))))); (simp only [Act.put, List.setIfInBounds_toArray, List.set_cons_zero, List.set_cons_succ]; refine hK _ ?_; clear hK K))) | ((with_reducible refine quietL_skip (by with_unfolding_all rfl) ?_); simp only [Act.put, List.setIfInBounds_toArray, List.set_cons_zero, List.set_cons_succ]))); refine quietL_nil ?_)
  (refine anyB_one (i := 4) (by kernel_rfl) rfl rfl ?_; intro w2 hb2 K hK; have hs2 := hb2.size; (try simp at hs2); go_wp2; refine ⟨xs_, ?_⟩)
  (refine anyB_one (i := 5) (by kernel_rfl) rfl rfl ?_; intro w3 hb3 K hK; obtain ⟨hc3, hf3⟩ := ifs_of hb3; have hs3 := hb3.size; (try simp at hs3); go_wp2_with fail; refine (afirst_any (w2.heap.size + 1) _ 2 2 [armE a, orderE o] _ ((by simpa using Reads.new (size := 1) w2 (([armE a, orderE o]).map (.int .i64)).toArray 31 2 rfl : Reads (w2.alloc (.cells (([armE a, orderE o]).map (.int .i64)).toArray 31)) (w2.heap.size + 1) 1 (some ⟨w2.heap.size, 0, none⟩) 2 (([armE a, orderE o]).map (.int .i64))).below (hb3.mono (by simp))) (by unfold maxLen; decide)).mono ?_; rintro e w3' ⟨rfl, rfl⟩; go_wp2; refine ⟨xs_, ?_⟩)
  (refine anyB_one (i := 6) (by kernel_rfl) rfl rfl ?_; intro w4 hb4 K hK; have hs4 := hb4.size; (try simp at hs4); go_wp2; refine ⟨xs_, ?_⟩)
  (refine anyB_end (by kernel_rfl) ?_; intro w5 hb5; have hs5 := hb5.size; (try simp at hs5); simp only [Calm])
  have hb05 : Below W0.heap.size W0 w5 := bl_
  have bA5 := bA0.kept hb05
  have bO5 := bO0.kept hb05
  have HB5 := Lib.hid (hb0.trans (hb05.mono hb0.size))
  have cA5 := bA5.cell
  have lA5 := bA5.lt
  have cO5 := bO5.cell
  have lO5 := bO5.lt
  skip
  clear cA0 lA0 cO0 lO0 bA0 bO0 hb05 hb0 HC1 HC hb2 hb3 hb4 hb5
  rw [HE1.out]
  by_cases h1 : E1 = 0
  · subst h1
    obtain ⟨hE, ho⟩ := HOk.out rfl
    have hM5 := HMs.out.below (HB5.out.mono hB)
    have hs5 := HB5.out.size
    have HRf := Lib.hid (refused_any B A n c a o w5 hM5 (by omega) (by omega) (fit_of hE) ho)
    obtain ⟨E2, hE2⟩ : ∃ E2, refE a o = E2 := ⟨_, rfl⟩
    rw [hE2] at HRf
    have hch : choE a o = E2 := by unfold choE; rw [HE1.out, hE2]; rfl
    have HCh := Lib.hid hch
    have HE2 := Lib.hid hE2
    have HEo := Lib.hid ho
    have HEa := Lib.hid hE
    clear hM5 hE ho hE2 hch
    go_wp2_with fail
    refine HRf.out.mono ?_
    rintro e w6 ⟨rfl, hb6⟩
    have bA6 := bA5.kept hb6
    have bO6 := bO5.kept hb6
    have cA6 := bA6.cell
    have lA6 := bA6.lt
    have cO6 := bO6.cell
    have lO6 := bO6.lt
    have HB6 := Lib.hid (HB5.out.trans (hb6.mono HB5.out.size))
    have hs6 := hb6.size
    clear cA5 lA5 cO5 lO5 bA5 bO5 bA6 bO6 hb6 HRf
    by_cases h2 : E2 = 0
    · subst h2
      have HCo := Lib.hid (choice_any B A n c a o w6 (HMs.out.below (HB6.out.mono hB)) (by omega) (by omega) HEa.out HEo.out HE2.out)
      go_wp2_with fail
      refine HCo.out.mono ?_
      rintro e w7 ⟨v, rfl, hr7, hb7⟩
      have HR7 := Lib.hid hr7
      have HB7 := Lib.hid hb7
      clear hr7 hb7
      go_wp2_with fail
      go_ret2
      exact ⟨v, by rw [HCh.out]; rfl, by unfold choL; rw [if_pos HCh.out]; exact row_base HR7.out (by omega), fun h => absurd HCh.out h, HB6.out.trans (HB7.out.mono (by omega))⟩
    · have hne : (E2 != 0) = true := by simpa using h2
      go_wp2_with fail
      go_ret2
      exact ⟨.slice none 0 0, by rw [HCh.out]; rfl, by unfold choL; rw [if_neg (by rw [HCh.out]; exact h2)]; exact World.ownsRow_nil _ _ _ _, fun _ => rfl, HB6.out⟩
  · have hne : (E1 != 0) = true := by simpa using h1
    have HCh : Hid (choE a o = E1) := Lib.hid (by unfold choE or0; rw [HE1.out, if_neg h1])
    go_wp2_with fail
    go_ret2
    exact ⟨.slice none 0 0, by rw [HCh.out]; rfl, by unfold choL; rw [if_neg (by rw [HCh.out]; exact h1)]; exact World.ownsRow_nil _ _ _ _, fun _ => rfl, HB5.out⟩
end Go.Proofs.YtafnebfchhmgcaaGreat
/- Bound of the program. -/
namespace Go.Proofs.YtafnebfchhmgcaaGreat
open Go.RowKit Go.Sort Go.Shelf
set_option linter.unusedSimpArgs false
set_option linter.unusedVariables false
attribute [local go_sem] cell_if frozen_if grow_cell
def bouV (a : Ar) (o : Od) : Int := if choE a o = 0 then boundL a o else 0
theorem bou_nil {a : Ar} {o : Od} (h1 : o.n = 0) (h2 : o.c = 0) : boundL a o = spreadL a := by
  have := spread_nonneg a
  unfold boundL absI
  rw [h2]
  split <;> omega
end Go.Proofs.YtafnebfchhmgcaaGreat
