/- Reference of the arm: Run. -/
import Derived.Test.YtfpjcnkfoehhmaaGreatDoorRS
import Derived.Test.YtfpjcnkfoehhmaaGreatDoorUA2
import Derived.Test.YtfpjcnkfoehhmaaGreatDoorDC
import Derived.Test.YtfpjcnkfoehhmaaGreatDoorQd
import Derived.Deep.DeepCutAuto
import Derived.Deep.CutBlock
namespace Go.Proofs.YtfpjcnkfoehhmaaGreatDoor
open Go.RowKit Go.Sort Go.Shelf
set_option linter.unusedSimpArgs false
set_option linter.unusedVariables false
attribute [local go_sem] cell_if frozen_if grow_cell
/-- Between two orders of the reference. -/
structure RwI (w wk : World) (nb : Nat) (A : Option Addr) (n c : Nat) (a : Ar) (A' : Option Addr) (c' : Nat) (m : List Md) (W : World) : Prop where
  bA : Blk W w.heap.size 26 #[.slice A n c, .int .i64 a.lo, .int .i64 a.hi, .int .i64 a.cur, .int .i64 a.lim]
  bN : Blk W nb 26 #[.slice A' n c', .int .i64 a.lo, .int .i64 a.hi, .int .i64 a.cur, .int .i64 a.lim]
  r : MsAt W W.heap.size A' n m
  low : Below w.heap.size w W
  lk : Below wk.heap.size wk W
  lt : w.heap.size < nb
  le : wk.heap.size ≤ nb
theorem RwI.kept {w wk : World} {nb : Nat} {A : Option Addr} {n c : Nat} {a : Ar} {A' : Option Addr} {c' : Nat} {m : List Md} {W W' : World} (h : RwI w wk nb A n c a A' c' m W) (hb : Below W.heap.size W W') : RwI w wk nb A n c a A' c' m W' :=
  ⟨h.bA.kept hb, h.bN.kept hb, ms_kept h.r hb, h.low.trans (hb.mono h.low.size), h.lk.trans (hb.mono h.lk.size), h.lt, h.le⟩
theorem ms_putR {W : World} {n b : Nat} {A : Option Addr} {m : List Md} {t : TypeId} {A0 : Option Addr} {n0 c0 : Nat} {x1 x2 x3 x4 : Int} {v0 v1 v2 v3 v4 : Value} (h : MsAt W W.heap.size A n m) (hk : Blk W b t #[.slice A0 n0 c0, .int .i64 x1, .int .i64 x2, .int .i64 x3, .int .i64 x4]) :
    MsAt (((((W.setCell ⟨b, 0, none⟩ v0).setCell ⟨b, 1, none⟩ v1).setCell ⟨b, 2, none⟩ v2).setCell ⟨b, 3, none⟩ v3).setCell ⟨b, 4, none⟩ v4) (((((W.setCell ⟨b, 0, none⟩ v0).setCell ⟨b, 1, none⟩ v1).setCell ⟨b, 2, none⟩ v2).setCell ⟨b, 3, none⟩ v3).setCell ⟨b, 4, none⟩ v4).heap.size A n m := by
  have e5 : ∀ (V : World) (p : Addr) (u : Value), (V.setCell p u).heap.size = V.heap.size := fun V p u => by simp [World.setCell]
  have hne := ms_ne h hk (fun i s e => by
    match i, e with
    | 0, e => simp at e
    | 1, e => simp at e
    | 2, e => simp at e
    | 3, e => simp at e
    | 4, e => simp at e
    | i + 5, e => simp at e)
  rw [e5, e5, e5, e5, e5]
  exact ms_set (ms_set (ms_set (ms_set (ms_set h hne 0 v0) hne 1 v1) hne 2 v2) hne 3 v3) hne 4 v4
theorem run_atR {a b : Ar} {l : List Od} {k : Nat} (hk : k < l.length) (h : goTo a (l.take k) = some b) (h2 : stepE b l[k] ≠ 0) : runGo 0 a l = (nilA, k, stepE b l[k]) := by
  have := runGo_no (r := l.drop (k + 1)) h h2
  rw [← List.drop_eq_getElem_cons hk, List.take_append_drop, List.length_take, Nat.min_eq_left (Nat.le_of_lt hk)] at this
  exact this
def RunRR (w : World) (a : Ar) (l : List Od) (e : Ending) (w' : World) : Prop := ∃ A c, e = .returned (.tuple #[.agg #[.slice A (runGo 0 a l).1.m.length c, .int .i64 (runGo 0 a l).1.lo, .int .i64 (runGo 0 a l).1.hi, .int .i64 (runGo 0 a l).1.cur, .int .i64 (runGo 0 a l).1.lim], .int .i64 ((runGo 0 a l).2.1 : Int), .int .i64 (runGo 0 a l).2.2]) ∧ MsAt w' w'.heap.size A (runGo 0 a l).1.m.length (runGo 0 a l).1.m ∧ Below w.heap.size w w'
set_option maxRecDepth 100000 in
set_option maxHeartbeats 8000000 in
theorem rRun_any (B B2 : Nat) (A A2 : Option Addr) (n c n2 c2 : Nat) (a : Ar) (l : List Od) (w : World) (hM : MsAt w B A n a.m) (hB : B ≤ w.heap.size) (hn : n ≤ 17) (hF : FitA a) (hE : armE a = 0) (hO : Reads w B2 2 A2 n2 (ods l)) (hB2 : B2 ≤ w.heap.size) (hn2 : n2 ≤ 1000) (ho : ∀ o ∈ l, orderE o = 0) :
    Calls Tryz.prog 35 #[.agg #[.slice A n c, .int .i64 a.lo, .int .i64 a.hi, .int .i64 a.cur, .int .i64 a.lim], .slice A2 n2 c2] w (RunRR w a l) := by
  have hl := (md_at hM).1
  obtain ⟨hl2, hat2⟩ := od_at hO
  have HOw := Lib.hid (fun W (hW : Below w.heap.size w W) => rOwn_any B A n c a W (hM.below (hW.mono hB)) (by have := hW.size; omega) (by omega))
  have HA2 := Lib.hid hat2
  have HEn := Lib.hid (And.intro hE (And.intro ho (And.intro hF hl)))
  have hB2s := hB2
  clear hM hO hat2 hE ho hF
  go_enter Tryz.func35, Tryz.ntmps35
  go_wp2_with fail
  refine (HOw.out _ bl_).mono ?_
  rintro e w1 ⟨g1, cap1, rfl, hg, hb⟩
  have hs1 := hb.size
  simp at hs1
  have bA : Blk w1 w.heap.size 26 #[.slice A n c, .int .i64 a.lo, .int .i64 a.hi, .int .i64 a.cur, .int .i64 a.lim] := bk_
  have bR : Blk w1 (w.heap.size + 1) 26 #[.slice none 0 0, .int .i64 0, .int .i64 0, .int .i64 0, .int .i64 0] := bk_
  have hlow : Below w.heap.size w w1 := bl_
  obtain ⟨rest, hg⟩ := own_rest hg
  have hm1 := mdr_at hg
  rw [hl] at hm1 ⊢
  have HM1 := Lib.hid hm1
  have cA := bA.cell
  have lA := bA.lt
  clear hb hg hm1
  go_upto_block 0 with fail
  refine wp_world ?_
  intro W0 hW
  have hal : Below w1.heap.size w1 W0 := by rw [hW]; exact (Below.refl _ _).alloc (Nat.le_refl _) _
  have HRw : Hid (RwI w w1 w1.heap.size A n c a (some ⟨g1, 0, none⟩) cap1 a.m W0) := Lib.hid ⟨bA.kept hal, by rw [hW]; exact Blk.new _ _ _, ms_kept HM1.out hal, hlow.trans (hal.mono (by omega)), hal, by omega, Nat.le_refl _⟩
  have HRes := Lib.hid bR
  have hw1 : w.heap.size + 2 ≤ w1.heap.size := by omega
  clear hal hW HM1 cA lA bA hlow bR hs1
  go_wp2_with fail
  go_loopw [8] (fun s8 wr => ∃ (i : Nat) (b : Ar) (A' : Option Addr) (c' : Nat), i ≤ n2 ∧ s8 = .int .i64 (i : Int) ∧ Hid (goTo a (l.take i) = some b) ∧ Hid (RwI w w1 w1.heap.size A n c a A' c' b.m wr)) (fun s8 _ => n2 - (intOf s8).toNat)
  case atStart => exact ⟨0, a, _, _, by omega, rfl, Lib.hid rfl, HRw⟩
  case round =>
    clear HRw
    obtain ⟨i, b, A', c', hi, rfl, HG, HI⟩ := hrel
    obtain ⟨hEb, hS4⟩ := goTo_ok HEn.out.1 (fun x hx => HEn.out.2.1 x (List.mem_of_mem_take hx)) HG.out
    have HEb := Lib.hid hEb
    have HS4 := Lib.hid hS4
    clear hEb hS4
    have hsr := HI.out.low.size
    have hsk := HI.out.lk.size
    have cN := HI.out.bN.cell
    have lN := HI.out.bN.lt
    by_cases hlt : i < n2
    case neg =>
      obtain rfl : i = n2 := by omega
      as_aux_lemma =>
        have hgo := HG.out
        rw [List.take_of_length_le (by omega)] at hgo
        have hra := runGo_all hgo
        have hbln : b.m.length = n := HS4.out.len.trans HEn.out.2.2.2
        have HRg := Lib.hid hra
        have HBl := Lib.hid hbln
        have HBm := Lib.hid (same_mk HS4.out)
        have bR := HRes.out.kept (HI.out.lk)
        have cR := bR.cell
        have fR := bR.frozen
        have lR := bR.lt
        have k2 := put5_blk (v0 := .slice A' n c') (v1 := .int .i64 a.lo) (v2 := .int .i64 a.hi) (v3 := .int .i64 a.cur) (v4 := .int .i64 a.lim) bR
        have k4 := put5_low (b := w.heap.size + 1) (v0 := .slice A' n c') (v1 := .int .i64 a.lo) (v2 := .int .i64 a.hi) (v3 := .int .i64 a.cur) (v4 := .int .i64 a.lim) HI.out.low (by omega)
        have k3 := ms_put5 (b := w.heap.size + 1) (v0 := .slice A' n c') (v1 := .int .i64 a.lo) (v2 := .int .i64 a.hi) (v3 := .int .i64 a.cur) (v4 := .int .i64 a.lim) HI.out.r bR
        have K2 := Lib.hid k2
        have K4 := Lib.hid k4
        have K3 := Lib.hid k3
        clear k2 k4 k3 hra hbln hgo bR
        go_wp2_with fail
        have ck := K2.out.cell
        have hz := HRg.out
        refine bodyPost_ret (v := .tuple #[.agg #[.slice A' n c', .int .i64 a.lo, .int .i64 a.hi, .int .i64 a.cur, .int .i64 a.lim], .int .i64 0, .int .i64 0]) (by simp [results, Tryz.results35, go_sem, ck]) rfl ?_
        unfold RunRR
        rw [hz]
        dsimp only
        rw [HBl.out, HS4.out.lo, HS4.out.hi, HS4.out.cur, HS4.out.lim]
        exact ⟨A', c', rfl, K3.out, K4.out⟩
    case pos =>
    have hil : i < l.length := by omega
    obtain ⟨bo, oo, eA2, hbo, z0, z1⟩ := HA2.out i hil
    have hbow : bo < wr.heap.size := by omega
    have HZ1w := Lib.hid z1
    have z0 := (HI.out.low.cell (p := ⟨bo, oo + i * 2, none⟩) (by simp; omega)).trans z0
    have z1 := (HI.out.low.cell (p := ⟨bo, oo + i * 2 + 1, none⟩) (by simp; omega)).trans z1
    have hok : orderE l[i] = 0 := HEn.out.2.1 _ (List.getElem_mem hil)
    have hbln : b.m.length = n := HS4.out.len.trans HEn.out.2.2.2
    have hbm := same_mk HS4.out
    have HS := Lib.hid (fun W A c (hm : MsAt W W.heap.size A n b.m) => rStep_any W.heap.size A n c b l[i] W hm (Nat.le_refl _) hn HEb.out hok)
    rw [hbm] at HS
    unfold RStRes at HS
    dsimp only at HS
    rw [hbln] at HS
    rw [← hbm] at HS
    have HTk : Hid (l.take (i + 1) = l.take i ++ [l[i]]) := Lib.hid (List.take_succ_eq_append_getElem hil)
    have HNo := Lib.hid (fun h => run_atR hil HG.out h)
    have HGs := Lib.hid (goTo_snoc (o := l[i]) HG.out)
    have HOk := Lib.hid hok
    subst eA2
    clear hok hbln hbm
    generalize l[i] = o at *
    obtain ⟨er, her⟩ : ∃ er, stepE b o = er := ⟨_, rfl⟩
    rw [her] at HS HNo HGs
    have HEr := Lib.hid her
    clear her hil
    by_cases h0 : er = 0
    case neg =>
      as_aux_lemma =>
        have h0d : (er != 0) = true := by simpa using h0
        have HS0 := Lib.hid (fun W A c hm => (HS.out W A c hm).mono (fun e w' (h : _ ∧ _) => show e = .returned (.tuple #[.agg #[.slice none 0 0, .int .i64 0, .int .i64 0, .int .i64 0, .int .i64 0], .int .i64 er]) ∧ Below W.heap.size W w' from by
          obtain ⟨hb, ⟨h1, _⟩ | ⟨_, h1⟩⟩ := h
          · exact absurd h1 h0
          · exact ⟨h1, hb⟩))
        clear HS
        go_upto_region 5 with fail
        go_cut [9, 10] (fun s9 s10 wx => ∃ b9 : Nat, s9 = .pointer (some ⟨b9, 0, none⟩) ∧ s10 = .int .i64 er ∧ Below wr.heap.size wr wx)
        case first =>
          have HP := Lib.hid (Below.refl wr.heap.size wr)
          (refine wp_region_calm [] [0, 1, 2, 3, 4] 7 (by kernel_rfl) rfl (by kernel_rfl) (by kernel_rfl) (by kernel_rfl) ?_; simp only [pickB, List.filterMap_cons, List.filterMap_nil, List.getElem?_toArray, List.getElem?_cons_zero, List.getElem?_cons_succ]; (repeat (first | ((first | (with_reducible refine quietL_plain rfl (fun K hK => ?_)) | (with_reducible refine quietL_want (by with_unfolding_all rfl) (fun K hK => ?_))); (apply Exists.intro; refine ⟨fun wx hx => ?_, ?_⟩; (· (have hcx := ifs_ex hx); simp [go_sem, *, ↓IntWalk.iteOmega] <;> (first | rfl | exact ⟨rfl, rfl⟩ | skip)); (simp only [Act.put, List.setIfInBounds_toArray, List.set_cons_zero, List.set_cons_succ]; refine hK _ ?_; clear hK K))) | ((with_reducible refine quietL_skip (by with_unfolding_all rfl) ?_); simp only [Act.put, List.setIfInBounds_toArray, List.set_cons_zero, List.set_cons_succ]))); refine quietL_nil ?_)
          refine anyB_two (i := 5) (j := 9) (by kernel_rfl) rfl rfl rfl rfl ?_ ?_
          · skip
            intro wa0 hba0 K hK
            have hsa0 := hba0.size
            (try simp at hsa0)
            replace HP := Lib.hid (HP.out.trans (hba0.mono HP.out.size))
            (try replace BB := Lib.hid (BB.out.kept hba0))
            (try replace HMo := Lib.hid (ms_kept HMo.out hba0))
            go_wp2_with fail
            refine (HS0.out _ _ _ (ms_kept HI.out.r HP.out)).mono ?_
            rintro e wb0 ⟨rfl, hbb0⟩
            have hsb0 := hbb0.size
            replace HP := Lib.hid (HP.out.trans (hbb0.mono HP.out.size))
            (try replace BB := Lib.hid (BB.out.kept hbb0))
            go_wp2
            refine ⟨xs_, ?_⟩
            (refine anyB_quiet_at (by kernel_rfl) calm_panic xs_ 3 [6, 7, 8] _ _ (by kernel_rfl) (by decide +kernel) ?_; simp only [pickB, List.filterMap_cons, List.filterMap_nil, List.getElem?_toArray, List.getElem?_cons_zero, List.getElem?_cons_succ]; (repeat (first | ((first | (with_reducible refine quietL_plain rfl (fun K hK => ?_)) | (with_reducible refine quietL_want (by with_unfolding_all rfl) (fun K hK => ?_))); (apply Exists.intro; refine ⟨fun wx hx => ?_, ?_⟩; (· (have hcx := ifs_ex hx); simp [go_sem, *, ↓IntWalk.iteOmega] <;> (first | rfl | exact ⟨rfl, rfl⟩ | fail)); (simp only [Act.put, List.setIfInBounds_toArray, List.set_cons_zero, List.set_cons_succ]; refine hK _ ?_; clear hK K))) | ((with_reducible refine quietL_skip (by with_unfolding_all rfl) ?_); simp only [Act.put, List.setIfInBounds_toArray, List.set_cons_zero, List.set_cons_succ]))); refine quietL_nil ?_)
            refine anyB_one (i := 9) (by kernel_rfl) rfl rfl ?_
            intro wh hbh K hK
            have hsh := hbh.size
            (try simp at hsh)
            replace HP := Lib.hid (HP.out.trans (hbh.mono HP.out.size))
            (try replace HMo := Lib.hid (ms_kept HMo.out hbh))
            have hbx : Below wh.heap.size wh (wh.alloc (.cells #[.slice none 0 0, .int .i64 0, .int .i64 0, .int .i64 0, .int .i64 0] 26)) := (Below.refl _ _).alloc (Nat.le_refl _) _
            replace HP := Lib.hid (HP.out.trans (hbx.mono HP.out.size))
            (try replace HMo := Lib.hid (ms_kept HMo.out hbx))
            have BB := Lib.hid (Blk.new wh 26 #[.slice none 0 0, .int .i64 0, .int .i64 0, .int .i64 0, .int .i64 0])
            have hwh := HP.out.size
            clear hbx
            go_wp2
            refine ⟨xs_, ?_⟩
            refine anyB_one (i := 10) (by kernel_rfl) rfl rfl ?_
            intro wi hbi K hK
            have hsi := hbi.size
            (try simp at hsi)
            replace HP := Lib.hid (HP.out.trans (hbi.mono HP.out.size))
            replace BB := Lib.hid (BB.out.kept hbi)
            (try replace HMo := Lib.hid (ms_kept HMo.out hbi))
            have cB := BB.out.cell
            have fB := BB.out.frozen
            have lB := BB.out.lt
            go_wp2
            refine ⟨xs_, ?_⟩
            have BC := Lib.hid (put5_blk (v0 := .slice none 0 0) (v1 := .int .i64 0) (v2 := .int .i64 0) (v3 := .int .i64 0) (v4 := .int .i64 0) BB.out)
            have HPc := Lib.hid (put5_low (b := wh.heap.size) (v0 := .slice none 0 0) (v1 := .int .i64 0) (v2 := .int .i64 0) (v3 := .int .i64 0) (v4 := .int .i64 0) HP.out (by omega))
            clear cB fB lB HP BB
            refine anyB_one (i := 11) (by kernel_rfl) rfl rfl ?_
            intro wj hbj K hK
            have hsj := hbj.size
            (try simp at hsj)
            go_wp2
            refine ⟨xs_, ?_⟩
            refine anyB_end (by kernel_rfl) ?_
            intro wk hbk
            have hsk := hbk.size
            simp only [Calm]
            have BE := Lib.hid ((BC.out.kept hbj).kept hbk)
            have HPe := Lib.hid ((HPc.out.trans (hbj.mono HPc.out.size)).trans (hbk.mono (by have := HPc.out.size; omega)))
            go_wp2_with fail
            go_meet
            case rel => exact ⟨wh.heap.size, rfl, rfl, HPe.out⟩
          · skip
            intro wh hbh K hK
            have hsh := hbh.size
            (try simp at hsh)
            replace HP := Lib.hid (HP.out.trans (hbh.mono HP.out.size))
            (try replace HMo := Lib.hid (ms_kept HMo.out hbh))
            have hbx : Below wh.heap.size wh (wh.alloc (.cells #[.slice none 0 0, .int .i64 0, .int .i64 0, .int .i64 0, .int .i64 0] 26)) := (Below.refl _ _).alloc (Nat.le_refl _) _
            replace HP := Lib.hid (HP.out.trans (hbx.mono HP.out.size))
            (try replace HMo := Lib.hid (ms_kept HMo.out hbx))
            have BB := Lib.hid (Blk.new wh 26 #[.slice none 0 0, .int .i64 0, .int .i64 0, .int .i64 0, .int .i64 0])
            have hwh := HP.out.size
            clear hbx
            go_wp2
            refine ⟨xs_, ?_⟩
            refine anyB_one (i := 5) (by kernel_rfl) rfl rfl ?_
            intro wa0 hba0 K hK
            have hsa0 := hba0.size
            (try simp at hsa0)
            replace HP := Lib.hid (HP.out.trans (hba0.mono HP.out.size))
            (try replace BB := Lib.hid (BB.out.kept hba0))
            (try replace HMo := Lib.hid (ms_kept HMo.out hba0))
            go_wp2_with fail
            refine (HS0.out _ _ _ (ms_kept HI.out.r HP.out)).mono ?_
            rintro e wb0 ⟨rfl, hbb0⟩
            have hsb0 := hbb0.size
            replace HP := Lib.hid (HP.out.trans (hbb0.mono HP.out.size))
            (try replace BB := Lib.hid (BB.out.kept hbb0))
            go_wp2
            refine ⟨xs_, ?_⟩
            (refine anyB_quiet_at (by kernel_rfl) calm_panic xs_ 2 [6, 7, 8] _ _ (by kernel_rfl) (by decide +kernel) ?_; simp only [pickB, List.filterMap_cons, List.filterMap_nil, List.getElem?_toArray, List.getElem?_cons_zero, List.getElem?_cons_succ]; (repeat (first | ((first | (with_reducible refine quietL_plain rfl (fun K hK => ?_)) | (with_reducible refine quietL_want (by with_unfolding_all rfl) (fun K hK => ?_))); (apply Exists.intro; refine ⟨fun wx hx => ?_, ?_⟩; (· (have hcx := ifs_ex hx); simp [go_sem, *, ↓IntWalk.iteOmega] <;> (first | rfl | exact ⟨rfl, rfl⟩ | fail)); (simp only [Act.put, List.setIfInBounds_toArray, List.set_cons_zero, List.set_cons_succ]; refine hK _ ?_; clear hK K))) | ((with_reducible refine quietL_skip (by with_unfolding_all rfl) ?_); simp only [Act.put, List.setIfInBounds_toArray, List.set_cons_zero, List.set_cons_succ]))); refine quietL_nil ?_)
            refine anyB_one (i := 10) (by kernel_rfl) rfl rfl ?_
            intro wi hbi K hK
            have hsi := hbi.size
            (try simp at hsi)
            replace HP := Lib.hid (HP.out.trans (hbi.mono HP.out.size))
            replace BB := Lib.hid (BB.out.kept hbi)
            (try replace HMo := Lib.hid (ms_kept HMo.out hbi))
            have cB := BB.out.cell
            have fB := BB.out.frozen
            have lB := BB.out.lt
            go_wp2
            refine ⟨xs_, ?_⟩
            have BC := Lib.hid (put5_blk (v0 := .slice none 0 0) (v1 := .int .i64 0) (v2 := .int .i64 0) (v3 := .int .i64 0) (v4 := .int .i64 0) BB.out)
            have HPc := Lib.hid (put5_low (b := wh.heap.size) (v0 := .slice none 0 0) (v1 := .int .i64 0) (v2 := .int .i64 0) (v3 := .int .i64 0) (v4 := .int .i64 0) HP.out (by omega))
            clear cB fB lB HP BB
            refine anyB_one (i := 11) (by kernel_rfl) rfl rfl ?_
            intro wj hbj K hK
            have hsj := hbj.size
            (try simp at hsj)
            go_wp2
            refine ⟨xs_, ?_⟩
            refine anyB_end (by kernel_rfl) ?_
            intro wk hbk
            have hsk := hbk.size
            simp only [Calm]
            have BE := Lib.hid ((BC.out.kept hbj).kept hbk)
            have HPe := Lib.hid ((HPc.out.trans (hbj.mono HPc.out.size)).trans (hbk.mono (by have := HPc.out.size; omega)))
            go_wp2_with fail
            go_meet
            case rel => exact ⟨wh.heap.size, rfl, rfl, HPe.out⟩
        rename World => w9
        obtain ⟨b9, rfl, rfl, hb⟩ := hcut
        have HI9 := Lib.hid (HI.out.kept hb)
        have HRg := HNo.out h0
        clear HI hb HS0 cN lN z0 z1
        have bR := HRes.out.kept (HI9.out.lk)
        have cR := bR.cell
        have fR := bR.frozen
        have lR := bR.lt
        have k2 := put5_blk (v0 := .slice none 0 0) (v1 := .int .i64 0) (v2 := .int .i64 0) (v3 := .int .i64 0) (v4 := .int .i64 0) bR
        have k4 := put5_low (b := w.heap.size + 1) (v0 := .slice none 0 0) (v1 := .int .i64 0) (v2 := .int .i64 0) (v3 := .int .i64 0) (v4 := .int .i64 0) HI9.out.low (by omega)
        have K2 := Lib.hid k2
        have K4 := Lib.hid k4
        have HRz := Lib.hid HRg
        clear k2 k4 bR HRg
        go_wp2_with fail
        have ck := K2.out.cell
        have hz := HRz.out
        refine bodyPost_ret (v := .tuple #[.agg #[.slice none 0 0, .int .i64 0, .int .i64 0, .int .i64 0, .int .i64 0], .int .i64 (i : Int), .int .i64 er]) (by simp [results, Tryz.results35, go_sem, ck]) rfl ?_
        unfold RunRR
        rw [hz]
        exact ⟨none, 0, rfl, ms_nil _ _, K4.out⟩
    case pos =>
    subst h0
    as_aux_lemma =>
      rw [if_pos rfl] at HGs
      have HS0 := Lib.hid (fun W A c hm => (HS.out W A c hm).mono (fun e w' (h : _ ∧ _) => show ∃ g cg, e = .returned (.tuple #[.agg #[.slice (some ⟨g, 0, none⟩) n cg, .int .i64 a.lo, .int .i64 a.hi, .int .i64 a.cur, .int .i64 a.lim], .int .i64 0]) ∧ MsAt w' w'.heap.size (some ⟨g, 0, none⟩) n (stepA b o).m ∧ Below W.heap.size W w' from by
        obtain ⟨hb, ⟨_, g, cg, h1, h2, _⟩ | ⟨h1, _⟩⟩ := h
        · exact ⟨g, cg, h1, h2, hb⟩
        · exact absurd rfl h1))
      clear HS HNo
      go_upto_region 5 with fail
      go_cut [9, 10] (fun s9 s10 wx => ∃ b9 g cg : Nat, s9 = .pointer (some ⟨b9, 0, none⟩) ∧ s10 = .int .i64 0 ∧ Blk wx b9 26 #[.slice (some ⟨g, 0, none⟩) n cg, .int .i64 a.lo, .int .i64 a.hi, .int .i64 a.cur, .int .i64 a.lim] ∧ MsAt wx wx.heap.size (some ⟨g, 0, none⟩) n (stepA b o).m ∧ Below wr.heap.size wr wx)
      case first =>
        have HP := Lib.hid (Below.refl wr.heap.size wr)
        (refine wp_region_calm [] [0, 1, 2, 3, 4] 7 (by kernel_rfl) rfl (by kernel_rfl) (by kernel_rfl) (by kernel_rfl) ?_; simp only [pickB, List.filterMap_cons, List.filterMap_nil, List.getElem?_toArray, List.getElem?_cons_zero, List.getElem?_cons_succ]; (repeat (first | ((first | (with_reducible refine quietL_plain rfl (fun K hK => ?_)) | (with_reducible refine quietL_want (by with_unfolding_all rfl) (fun K hK => ?_))); (apply Exists.intro; refine ⟨fun wx hx => ?_, ?_⟩; (· (have hcx := ifs_ex hx); simp [go_sem, *, ↓IntWalk.iteOmega] <;> (first | rfl | exact ⟨rfl, rfl⟩ | skip)); (simp only [Act.put, List.setIfInBounds_toArray, List.set_cons_zero, List.set_cons_succ]; refine hK _ ?_; clear hK K))) | ((with_reducible refine quietL_skip (by with_unfolding_all rfl) ?_); simp only [Act.put, List.setIfInBounds_toArray, List.set_cons_zero, List.set_cons_succ]))); refine quietL_nil ?_)
        refine anyB_two (i := 5) (j := 9) (by kernel_rfl) rfl rfl rfl rfl ?_ ?_
        · skip
          intro wa0 hba0 K hK
          have hsa0 := hba0.size
          (try simp at hsa0)
          replace HP := Lib.hid (HP.out.trans (hba0.mono HP.out.size))
          (try replace BB := Lib.hid (BB.out.kept hba0))
          (try replace HG9 := Lib.hid (ms_kept HG9.out hba0))
          (try replace HMo := Lib.hid (ms_kept HMo.out hba0))
          go_wp2_with fail
          refine (HS0.out _ _ _ (ms_kept HI.out.r HP.out)).mono ?_
          rintro e wb0 ⟨g, cg, rfl, hg9, hbb0⟩
          have hsb0 := hbb0.size
          have HG9 := Lib.hid hg9; clear hg9
          replace HP := Lib.hid (HP.out.trans (hbb0.mono HP.out.size))
          (try replace BB := Lib.hid (BB.out.kept hbb0))
          go_wp2
          refine ⟨xs_, ?_⟩
          (refine anyB_quiet_at (by kernel_rfl) calm_panic xs_ 3 [6, 7, 8] _ _ (by kernel_rfl) (by decide +kernel) ?_; simp only [pickB, List.filterMap_cons, List.filterMap_nil, List.getElem?_toArray, List.getElem?_cons_zero, List.getElem?_cons_succ]; (repeat (first | ((first | (with_reducible refine quietL_plain rfl (fun K hK => ?_)) | (with_reducible refine quietL_want (by with_unfolding_all rfl) (fun K hK => ?_))); (apply Exists.intro; refine ⟨fun wx hx => ?_, ?_⟩; (· (have hcx := ifs_ex hx); simp [go_sem, *, ↓IntWalk.iteOmega] <;> (first | rfl | exact ⟨rfl, rfl⟩ | fail)); (simp only [Act.put, List.setIfInBounds_toArray, List.set_cons_zero, List.set_cons_succ]; refine hK _ ?_; clear hK K))) | ((with_reducible refine quietL_skip (by with_unfolding_all rfl) ?_); simp only [Act.put, List.setIfInBounds_toArray, List.set_cons_zero, List.set_cons_succ]))); refine quietL_nil ?_)
          refine anyB_one (i := 9) (by kernel_rfl) rfl rfl ?_
          intro wh hbh K hK
          have hsh := hbh.size
          (try simp at hsh)
          replace HP := Lib.hid (HP.out.trans (hbh.mono HP.out.size))
          (try replace HG9 := Lib.hid (ms_kept HG9.out hbh))
          (try replace HMo := Lib.hid (ms_kept HMo.out hbh))
          have hbx : Below wh.heap.size wh (wh.alloc (.cells #[.slice none 0 0, .int .i64 0, .int .i64 0, .int .i64 0, .int .i64 0] 26)) := (Below.refl _ _).alloc (Nat.le_refl _) _
          replace HP := Lib.hid (HP.out.trans (hbx.mono HP.out.size))
          (try replace HG9 := Lib.hid (ms_kept HG9.out hbx))
          (try replace HMo := Lib.hid (ms_kept HMo.out hbx))
          have BB := Lib.hid (Blk.new wh 26 #[.slice none 0 0, .int .i64 0, .int .i64 0, .int .i64 0, .int .i64 0])
          have hwh := HP.out.size
          clear hbx
          go_wp2
          refine ⟨xs_, ?_⟩
          refine anyB_one (i := 10) (by kernel_rfl) rfl rfl ?_
          intro wi hbi K hK
          have hsi := hbi.size
          (try simp at hsi)
          replace HP := Lib.hid (HP.out.trans (hbi.mono HP.out.size))
          replace BB := Lib.hid (BB.out.kept hbi)
          (try replace HG9 := Lib.hid (ms_kept HG9.out hbi))
          (try replace HMo := Lib.hid (ms_kept HMo.out hbi))
          have cB := BB.out.cell
          have fB := BB.out.frozen
          have lB := BB.out.lt
          go_wp2
          refine ⟨xs_, ?_⟩
          have BC := Lib.hid (put5_blk (v0 := .slice (some ⟨g, 0, none⟩) n cg) (v1 := .int .i64 a.lo) (v2 := .int .i64 a.hi) (v3 := .int .i64 a.cur) (v4 := .int .i64 a.lim) BB.out)
          have HPc := Lib.hid (put5_low (b := wh.heap.size) (v0 := .slice (some ⟨g, 0, none⟩) n cg) (v1 := .int .i64 a.lo) (v2 := .int .i64 a.hi) (v3 := .int .i64 a.cur) (v4 := .int .i64 a.lim) HP.out (by omega))
          (try replace HG9 := Lib.hid (ms_put5 (b := wh.heap.size) (v0 := .slice (some ⟨g, 0, none⟩) n cg) (v1 := .int .i64 a.lo) (v2 := .int .i64 a.hi) (v3 := .int .i64 a.cur) (v4 := .int .i64 a.lim) HG9.out BB.out))
          clear cB fB lB HP BB
          refine anyB_one (i := 11) (by kernel_rfl) rfl rfl ?_
          intro wj hbj K hK
          have hsj := hbj.size
          (try simp at hsj)
          go_wp2
          refine ⟨xs_, ?_⟩
          refine anyB_end (by kernel_rfl) ?_
          intro wk hbk
          have hsk := hbk.size
          simp only [Calm]
          have BE := Lib.hid ((BC.out.kept hbj).kept hbk)
          have HPe := Lib.hid ((HPc.out.trans (hbj.mono HPc.out.size)).trans (hbk.mono (by have := HPc.out.size; omega)))
          (try replace HG9 := Lib.hid (ms_kept (ms_kept HG9.out hbj) hbk))
          go_wp2_with fail
          go_meet
          case rel => exact ⟨wh.heap.size, g, cg, rfl, rfl, BE.out, HG9.out, HPe.out⟩
        · skip
          intro wh hbh K hK
          have hsh := hbh.size
          (try simp at hsh)
          replace HP := Lib.hid (HP.out.trans (hbh.mono HP.out.size))
          (try replace HG9 := Lib.hid (ms_kept HG9.out hbh))
          (try replace HMo := Lib.hid (ms_kept HMo.out hbh))
          have hbx : Below wh.heap.size wh (wh.alloc (.cells #[.slice none 0 0, .int .i64 0, .int .i64 0, .int .i64 0, .int .i64 0] 26)) := (Below.refl _ _).alloc (Nat.le_refl _) _
          replace HP := Lib.hid (HP.out.trans (hbx.mono HP.out.size))
          (try replace HG9 := Lib.hid (ms_kept HG9.out hbx))
          (try replace HMo := Lib.hid (ms_kept HMo.out hbx))
          have BB := Lib.hid (Blk.new wh 26 #[.slice none 0 0, .int .i64 0, .int .i64 0, .int .i64 0, .int .i64 0])
          have hwh := HP.out.size
          clear hbx
          go_wp2
          refine ⟨xs_, ?_⟩
          refine anyB_one (i := 5) (by kernel_rfl) rfl rfl ?_
          intro wa0 hba0 K hK
          have hsa0 := hba0.size
          (try simp at hsa0)
          replace HP := Lib.hid (HP.out.trans (hba0.mono HP.out.size))
          (try replace BB := Lib.hid (BB.out.kept hba0))
          (try replace HG9 := Lib.hid (ms_kept HG9.out hba0))
          (try replace HMo := Lib.hid (ms_kept HMo.out hba0))
          go_wp2_with fail
          refine (HS0.out _ _ _ (ms_kept HI.out.r HP.out)).mono ?_
          rintro e wb0 ⟨g, cg, rfl, hg9, hbb0⟩
          have hsb0 := hbb0.size
          have HG9 := Lib.hid hg9; clear hg9
          replace HP := Lib.hid (HP.out.trans (hbb0.mono HP.out.size))
          (try replace BB := Lib.hid (BB.out.kept hbb0))
          go_wp2
          refine ⟨xs_, ?_⟩
          (refine anyB_quiet_at (by kernel_rfl) calm_panic xs_ 2 [6, 7, 8] _ _ (by kernel_rfl) (by decide +kernel) ?_; simp only [pickB, List.filterMap_cons, List.filterMap_nil, List.getElem?_toArray, List.getElem?_cons_zero, List.getElem?_cons_succ]; (repeat (first | ((first | (with_reducible refine quietL_plain rfl (fun K hK => ?_)) | (with_reducible refine quietL_want (by with_unfolding_all rfl) (fun K hK => ?_))); (apply Exists.intro; refine ⟨fun wx hx => ?_, ?_⟩; (· (have hcx := ifs_ex hx); simp [go_sem, *, ↓IntWalk.iteOmega] <;> (first | rfl | exact ⟨rfl, rfl⟩ | fail)); (simp only [Act.put, List.setIfInBounds_toArray, List.set_cons_zero, List.set_cons_succ]; refine hK _ ?_; clear hK K))) | ((with_reducible refine quietL_skip (by with_unfolding_all rfl) ?_); simp only [Act.put, List.setIfInBounds_toArray, List.set_cons_zero, List.set_cons_succ]))); refine quietL_nil ?_)
          refine anyB_one (i := 10) (by kernel_rfl) rfl rfl ?_
          intro wi hbi K hK
          have hsi := hbi.size
          (try simp at hsi)
          replace HP := Lib.hid (HP.out.trans (hbi.mono HP.out.size))
          replace BB := Lib.hid (BB.out.kept hbi)
          (try replace HG9 := Lib.hid (ms_kept HG9.out hbi))
          (try replace HMo := Lib.hid (ms_kept HMo.out hbi))
          have cB := BB.out.cell
          have fB := BB.out.frozen
          have lB := BB.out.lt
          go_wp2
          refine ⟨xs_, ?_⟩
          have BC := Lib.hid (put5_blk (v0 := .slice (some ⟨g, 0, none⟩) n cg) (v1 := .int .i64 a.lo) (v2 := .int .i64 a.hi) (v3 := .int .i64 a.cur) (v4 := .int .i64 a.lim) BB.out)
          have HPc := Lib.hid (put5_low (b := wh.heap.size) (v0 := .slice (some ⟨g, 0, none⟩) n cg) (v1 := .int .i64 a.lo) (v2 := .int .i64 a.hi) (v3 := .int .i64 a.cur) (v4 := .int .i64 a.lim) HP.out (by omega))
          (try replace HG9 := Lib.hid (ms_put5 (b := wh.heap.size) (v0 := .slice (some ⟨g, 0, none⟩) n cg) (v1 := .int .i64 a.lo) (v2 := .int .i64 a.hi) (v3 := .int .i64 a.cur) (v4 := .int .i64 a.lim) HG9.out BB.out))
          clear cB fB lB HP BB
          refine anyB_one (i := 11) (by kernel_rfl) rfl rfl ?_
          intro wj hbj K hK
          have hsj := hbj.size
          (try simp at hsj)
          go_wp2
          refine ⟨xs_, ?_⟩
          refine anyB_end (by kernel_rfl) ?_
          intro wk hbk
          have hsk := hbk.size
          simp only [Calm]
          have BE := Lib.hid ((BC.out.kept hbj).kept hbk)
          have HPe := Lib.hid ((HPc.out.trans (hbj.mono HPc.out.size)).trans (hbk.mono (by have := HPc.out.size; omega)))
          (try replace HG9 := Lib.hid (ms_kept (ms_kept HG9.out hbj) hbk))
          go_wp2_with fail
          go_meet
          case rel => exact ⟨wh.heap.size, g, cg, rfl, rfl, BE.out, HG9.out, HPe.out⟩
      rename World => w9
      obtain ⟨b9, g, cg, rfl, rfl, h9, hm, hb⟩ := hcut
      have HI9 := Lib.hid (HI.out.kept hb)
      have H9 := Lib.hid h9
      have HM9 := Lib.hid hm
      clear HI hb h9 hm HS0 cN lN
      clear z0 z1
      have cN := HI9.out.bN.cell
      have lN := HI9.out.bN.lt
      have fN := HI9.out.bN.frozen
      have hlt9 := HI9.out.lt
      have HR : Hid (RwI w w1 w1.heap.size A n c a (some ⟨g, 0, none⟩) cg (stepA b o).m (((((w9.setCell ⟨w1.heap.size, 0, none⟩ (.slice (some ⟨g, 0, none⟩) n cg)).setCell ⟨w1.heap.size, 1, none⟩ (.int .i64 a.lo)).setCell ⟨w1.heap.size, 2, none⟩ (.int .i64 a.hi)).setCell ⟨w1.heap.size, 3, none⟩ (.int .i64 a.cur)).setCell ⟨w1.heap.size, 4, none⟩ (.int .i64 a.lim))) := Lib.hid ⟨put5_far HI9.out.bA (by omega), put5_blk HI9.out.bN, ms_putR HM9.out HI9.out.bN, put5_low HI9.out.low (by omega), put5_low HI9.out.lk (Nat.le_refl _), hlt9, Nat.le_refl _⟩
      have c9 := H9.out.cell
      have l9 := H9.out.lt
      go_wp2_with fail
      go_roundw
      case rel => exact ⟨i + 1, stepA b o, some ⟨g, 0, none⟩, cg, by omega, by go_num, by rw [HTk.out]; exact HGs, HR⟩
      case measure => simp [intOf]; omega
end Go.Proofs.YtfpjcnkfoehhmaaGreatDoor
