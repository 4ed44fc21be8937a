/- Reference of the arm: Work (orders that are not refused). -/
import Derived.Test.YtfpjcnkfoehhmaaGreatDoorRW
import Derived.Test.YtfpjcnkfoehhmaaGreatDoorQm
namespace Go.Proofs.YtfpjcnkfoehhmaaGreatDoor
open Go.RowKit Go.Sort Go.Shelf
set_option linter.unusedSimpArgs false
set_option linter.unusedVariables false
attribute [local go_sem] cell_if frozen_if grow_cell
theorem wk_at {b : Ar} {o : Od} {k : Nat} (h : k < b.m.length) (h' : k < (stepA b o).m.length) : (stepA b o).m[k] = stepM (choiceA b o) o.c k b.m[k] := by
  have e := step_get (set := choiceA b o) (c := o.c) h
  have e2 : (stepA b o).m[k]? = some (stepA b o).m[k] := List.getElem?_eq_getElem h'
  exact Option.some.inj (e2.symm.trans e)
set_option maxRecDepth 100000 in
set_option maxHeartbeats 8000000 in
theorem rWork_any (B B2 : Nat) (A A2 : Option Addr) (n c n2 c2 : Nat) (a : Ar) (l : List Od) (w : World) (hM : MsAt w B A n a.m) (hB : B ≤ w.heap.size) (hn : n ≤ 17) (hF : FitA a) (hE : armE a = 0) (hO : Reads w B2 2 A2 n2 (ods l)) (hB2 : B2 ≤ w.heap.size) (hn2 : n2 ≤ 1000) (ho : ∀ o ∈ l, orderE o = 0) (hfo : folE a l = 0) :
    Calls Tryz.prog 36 #[.agg #[.slice A n c, .int .i64 a.lo, .int .i64 a.hi, .int .i64 a.cur, .int .i64 a.lim], .slice A2 n2 c2] w (fun e w' => e = .returned (.tuple #[.int .i64 (workL a l), .int .i64 0]) ∧ Below w.heap.size w w') := by
  have hl := (md_at hM).1
  obtain ⟨hl2, hat2⟩ := od_at hO
  have HOw := Lib.hid (fun W (hW : Below w.heap.size w W) => rOwn_any B A n c a W (hM.below (hW.mono hB)) (by have := hW.size; omega) (by omega))
  have HA2 := Lib.hid hat2
  have HEn := Lib.hid (And.intro hE (And.intro ho (And.intro hF hl)))
  have hB2s := hB2
  have HFo := Lib.hid hfo
  clear hM hO hat2 hE ho hF hfo
  go_enter Tryz.func36, Tryz.ntmps36
  go_wp2_with fail
  refine (HOw.out _ bl_).mono ?_
  rintro e w1 ⟨g1, cap1, rfl, hg, hb⟩
  have hs1 := hb.size
  simp at hs1
  have bA : Blk w1 w.heap.size 26 #[.slice A n c, .int .i64 a.lo, .int .i64 a.hi, .int .i64 a.cur, .int .i64 a.lim] := bk_
  have hlow : Below w.heap.size w w1 := bl_
  obtain ⟨rest, hg⟩ := own_rest hg
  have hm1 := mdr_at hg
  rw [hl] at hm1 ⊢
  have HM1 := Lib.hid hm1
  have cA := bA.cell
  have lA := bA.lt
  clear hb hg hm1
  go_upto_block 0 with fail
  refine wp_world ?_
  intro W0 hW
  have hal : Below w1.heap.size w1 W0 := by rw [hW]; exact (Below.refl _ _).alloc (Nat.le_refl _) _
  have HRw : Hid (RwI w w1 w1.heap.size A n c a (some ⟨g1, 0, none⟩) cap1 a.m W0) := Lib.hid ⟨bA.kept hal, by rw [hW]; exact Blk.new _ _ _, ms_kept HM1.out hal, hlow.trans (hal.mono (by omega)), hal, by omega, Nat.le_refl _⟩
  have hw1 : w.heap.size + 1 ≤ w1.heap.size := by omega
  clear hal hW HM1 cA lA bA hlow  hs1
  go_wp2_with fail
  go_loopw [6, 8] (fun s6 s8 wr => ∃ (i : Nat) (b : Ar) (A' : Option Addr) (c' : Nat), i ≤ n2 ∧ s8 = .int .i64 (i : Int) ∧ s6 = .int .i64 (workL a (l.take i)) ∧ Hid (goTo a (l.take i) = some b) ∧ Hid (RwI w w1 w1.heap.size A n c a A' c' b.m wr)) (fun _ s8 _ => n2 - (intOf s8).toNat)
  case atStart => exact ⟨0, a, _, _, by omega, rfl, rfl, Lib.hid rfl, HRw⟩
  case round =>
    clear HRw
    obtain ⟨i, b, A', c', hi, rfl, rfl, HG, HI⟩ := hrel
    obtain ⟨hEb, hS4⟩ := goTo_ok HEn.out.1 (fun x hx => HEn.out.2.1 x (List.mem_of_mem_take hx)) HG.out
    have HEb := Lib.hid hEb
    have HS4 := Lib.hid hS4
    clear hEb hS4
    have hsr := HI.out.low.size
    have hsk := HI.out.lk.size
    have cN := HI.out.bN.cell
    have lN := HI.out.bN.lt
    by_cases hlt : i < n2
    case neg =>
      obtain rfl : i = n2 := by omega
      have HT : Hid (workL a (l.take i) = workL a l) := Lib.hid (by rw [List.take_of_length_le (by omega)])
      have HLw := Lib.hid HI.out.low
      clear HG HI
      go_wp2_with fail
      go_ret2
      exact ⟨by rw [HT.out]; rfl, HLw.out⟩
    case pos =>
    have HWs := Lib.hid (fun o => workL_snoc (o := o) HG.out)
    have hil : i < l.length := by omega
    obtain ⟨bo, oo, eA2, hbo, z0, z1⟩ := HA2.out i hil
    have hbow : bo < wr.heap.size := by omega
    have HZ1w := Lib.hid z1
    have z0 := (HI.out.low.cell (p := ⟨bo, oo + i * 2, none⟩) (by simp; omega)).trans z0
    have z1 := (HI.out.low.cell (p := ⟨bo, oo + i * 2 + 1, none⟩) (by simp; omega)).trans z1
    have hok : orderE l[i] = 0 := HEn.out.2.1 _ (List.getElem_mem hil)
    have hbln : b.m.length = n := HS4.out.len.trans HEn.out.2.2.2
    have hbm := same_mk HS4.out
    have HS := Lib.hid (fun W A c (hm : MsAt W W.heap.size A n b.m) => rStep_any W.heap.size A n c b l[i] W hm (Nat.le_refl _) hn HEb.out hok)
    rw [hbm] at HS
    unfold RStRes at HS
    dsimp only at HS
    rw [hbln] at HS
    rw [← hbm] at HS
    have HTk : Hid (l.take (i + 1) = l.take i ++ [l[i]]) := Lib.hid (List.take_succ_eq_append_getElem hil)
    have HNo := Lib.hid (fun h => run_atR hil HG.out h)
    have HGs := Lib.hid (goTo_snoc (o := l[i]) HG.out)
    have HOk := Lib.hid hok
    subst eA2
    clear hok hbln hbm
    generalize l[i] = o at *
    obtain ⟨er, her⟩ : ∃ er, stepE b o = er := ⟨_, rfl⟩
    rw [her] at HS HNo HGs
    have HEr := Lib.hid her
    clear her hil
    have hwb := work_bd HEn.out.1 (fun x hx => HEn.out.2.1 x (List.mem_of_mem_take hx)) HG.out
    have hlti : (l.take i).length ≤ 1000 := by rw [List.length_take]; omega
    have HWn : Hid (workL a (l.take (i + 1)) = workL a (l.take i) + wkA b o) := Lib.hid (by rw [HTk.out]; exact HWs.out o)
    have hbln : b.m.length = n := HS4.out.len.trans HEn.out.2.2.2
    have HBl := Lib.hid hbln
    have hoc := (order_zero HOk.out).2
    have HQb := Lib.hid (fit_of HEb.out).q
    have h0 : er = 0 := by
      by_cases h : er = 0
      · exact h
      · have h2 := HNo.out h
        have h3 := HFo.out
        unfold folE at h3
        rw [h2] at h3
        exact h3
    clear hbln HWs
    subst h0
    as_aux_lemma =>
      rw [if_pos rfl] at HGs
      have HS0 := Lib.hid (fun W A c hm => (HS.out W A c hm).mono (fun e w' (h : _ ∧ _) => show ∃ g cg, e = .returned (.tuple #[.agg #[.slice (some ⟨g, 0, none⟩) n cg, .int .i64 a.lo, .int .i64 a.hi, .int .i64 a.cur, .int .i64 a.lim], .int .i64 0]) ∧ MsAt w' w'.heap.size (some ⟨g, 0, none⟩) n (stepA b o).m ∧ Below W.heap.size W w' from by
        obtain ⟨hb, ⟨_, g, cg, h1, h2, _⟩ | ⟨h1, _⟩⟩ := h
        · exact ⟨g, cg, h1, h2, hb⟩
        · exact absurd rfl h1))
      clear HS HNo
      go_upto_region 6 with fail
      go_cut [9, 10] (fun s9 s10 wx => ∃ b9 g cg : Nat, s9 = .pointer (some ⟨b9, 0, none⟩) ∧ s10 = .int .i64 0 ∧ Blk wx b9 26 #[.slice (some ⟨g, 0, none⟩) n cg, .int .i64 a.lo, .int .i64 a.hi, .int .i64 a.cur, .int .i64 a.lim] ∧ MsAt wx wx.heap.size (some ⟨g, 0, none⟩) n (stepA b o).m ∧ Below wr.heap.size wr wx)
      case first =>
        have HP := Lib.hid (Below.refl wr.heap.size wr)
        (refine wp_region_calm [] [0, 1, 2, 3, 4] 7 (by kernel_rfl) rfl (by kernel_rfl) (by kernel_rfl) (by kernel_rfl) ?_; simp only [pickB, List.filterMap_cons, List.filterMap_nil, List.getElem?_toArray, List.getElem?_cons_zero, List.getElem?_cons_succ]; (repeat (first | ((first | (with_reducible refine quietL_plain rfl (fun K hK => ?_)) | (with_reducible refine quietL_want (by with_unfolding_all rfl) (fun K hK => ?_))); (apply Exists.intro; refine ⟨fun wx hx => ?_, ?_⟩; (· (have hcx := ifs_ex hx); simp [go_sem, *, ↓IntWalk.iteOmega] <;> (first | rfl | exact ⟨rfl, rfl⟩ | skip)); (simp only [Act.put, List.setIfInBounds_toArray, List.set_cons_zero, List.set_cons_succ]; refine hK _ ?_; clear hK K))) | ((with_reducible refine quietL_skip (by with_unfolding_all rfl) ?_); simp only [Act.put, List.setIfInBounds_toArray, List.set_cons_zero, List.set_cons_succ]))); refine quietL_nil ?_)
        refine anyB_two (i := 5) (j := 9) (by kernel_rfl) rfl rfl rfl rfl ?_ ?_
        · skip
          intro wa0 hba0 K hK
          have hsa0 := hba0.size
          (try simp at hsa0)
          replace HP := Lib.hid (HP.out.trans (hba0.mono HP.out.size))
          (try replace BB := Lib.hid (BB.out.kept hba0))
          (try replace HG9 := Lib.hid (ms_kept HG9.out hba0))
          (try replace HMo := Lib.hid (ms_kept HMo.out hba0))
          go_wp2_with fail
          refine (HS0.out _ _ _ (ms_kept HI.out.r HP.out)).mono ?_
          rintro e wb0 ⟨g, cg, rfl, hg9, hbb0⟩
          have hsb0 := hbb0.size
          have HG9 := Lib.hid hg9; clear hg9
          replace HP := Lib.hid (HP.out.trans (hbb0.mono HP.out.size))
          (try replace BB := Lib.hid (BB.out.kept hbb0))
          go_wp2
          refine ⟨xs_, ?_⟩
          (refine anyB_quiet_at (by kernel_rfl) calm_panic xs_ 3 [6, 7, 8] _ _ (by kernel_rfl) (by decide +kernel) ?_; simp only [pickB, List.filterMap_cons, List.filterMap_nil, List.getElem?_toArray, List.getElem?_cons_zero, List.getElem?_cons_succ]; (repeat (first | ((first | (with_reducible refine quietL_plain rfl (fun K hK => ?_)) | (with_reducible refine quietL_want (by with_unfolding_all rfl) (fun K hK => ?_))); (apply Exists.intro; refine ⟨fun wx hx => ?_, ?_⟩; (· (have hcx := ifs_ex hx); simp [go_sem, *, ↓IntWalk.iteOmega] <;> (first | rfl | exact ⟨rfl, rfl⟩ | fail)); (simp only [Act.put, List.setIfInBounds_toArray, List.set_cons_zero, List.set_cons_succ]; refine hK _ ?_; clear hK K))) | ((with_reducible refine quietL_skip (by with_unfolding_all rfl) ?_); simp only [Act.put, List.setIfInBounds_toArray, List.set_cons_zero, List.set_cons_succ]))); refine quietL_nil ?_)
          refine anyB_one (i := 9) (by kernel_rfl) rfl rfl ?_
          intro wh hbh K hK
          have hsh := hbh.size
          (try simp at hsh)
          replace HP := Lib.hid (HP.out.trans (hbh.mono HP.out.size))
          (try replace HG9 := Lib.hid (ms_kept HG9.out hbh))
          (try replace HMo := Lib.hid (ms_kept HMo.out hbh))
          have hbx : Below wh.heap.size wh (wh.alloc (.cells #[.slice none 0 0, .int .i64 0, .int .i64 0, .int .i64 0, .int .i64 0] 26)) := (Below.refl _ _).alloc (Nat.le_refl _) _
          replace HP := Lib.hid (HP.out.trans (hbx.mono HP.out.size))
          (try replace HG9 := Lib.hid (ms_kept HG9.out hbx))
          (try replace HMo := Lib.hid (ms_kept HMo.out hbx))
          have BB := Lib.hid (Blk.new wh 26 #[.slice none 0 0, .int .i64 0, .int .i64 0, .int .i64 0, .int .i64 0])
          have hwh := HP.out.size
          clear hbx
          go_wp2
          refine ⟨xs_, ?_⟩
          refine anyB_one (i := 10) (by kernel_rfl) rfl rfl ?_
          intro wi hbi K hK
          have hsi := hbi.size
          (try simp at hsi)
          replace HP := Lib.hid (HP.out.trans (hbi.mono HP.out.size))
          replace BB := Lib.hid (BB.out.kept hbi)
          (try replace HG9 := Lib.hid (ms_kept HG9.out hbi))
          (try replace HMo := Lib.hid (ms_kept HMo.out hbi))
          have cB := BB.out.cell
          have fB := BB.out.frozen
          have lB := BB.out.lt
          go_wp2
          refine ⟨xs_, ?_⟩
          have BC := Lib.hid (put5_blk (v0 := .slice (some ⟨g, 0, none⟩) n cg) (v1 := .int .i64 a.lo) (v2 := .int .i64 a.hi) (v3 := .int .i64 a.cur) (v4 := .int .i64 a.lim) BB.out)
          have HPc := Lib.hid (put5_low (b := wh.heap.size) (v0 := .slice (some ⟨g, 0, none⟩) n cg) (v1 := .int .i64 a.lo) (v2 := .int .i64 a.hi) (v3 := .int .i64 a.cur) (v4 := .int .i64 a.lim) HP.out (by omega))
          (try replace HG9 := Lib.hid (ms_put5 (b := wh.heap.size) (v0 := .slice (some ⟨g, 0, none⟩) n cg) (v1 := .int .i64 a.lo) (v2 := .int .i64 a.hi) (v3 := .int .i64 a.cur) (v4 := .int .i64 a.lim) HG9.out BB.out))
          clear cB fB lB HP BB
          refine anyB_one (i := 11) (by kernel_rfl) rfl rfl ?_
          intro wj hbj K hK
          have hsj := hbj.size
          (try simp at hsj)
          go_wp2
          refine ⟨xs_, ?_⟩
          refine anyB_end (by kernel_rfl) ?_
          intro wk hbk
          have hsk := hbk.size
          simp only [Calm]
          have BE := Lib.hid ((BC.out.kept hbj).kept hbk)
          have HPe := Lib.hid ((HPc.out.trans (hbj.mono HPc.out.size)).trans (hbk.mono (by have := HPc.out.size; omega)))
          (try replace HG9 := Lib.hid (ms_kept (ms_kept HG9.out hbj) hbk))
          go_wp2_with fail
          go_meet
          case rel => exact ⟨wh.heap.size, g, cg, rfl, rfl, BE.out, HG9.out, HPe.out⟩
        · skip
          intro wh hbh K hK
          have hsh := hbh.size
          (try simp at hsh)
          replace HP := Lib.hid (HP.out.trans (hbh.mono HP.out.size))
          (try replace HG9 := Lib.hid (ms_kept HG9.out hbh))
          (try replace HMo := Lib.hid (ms_kept HMo.out hbh))
          have hbx : Below wh.heap.size wh (wh.alloc (.cells #[.slice none 0 0, .int .i64 0, .int .i64 0, .int .i64 0, .int .i64 0] 26)) := (Below.refl _ _).alloc (Nat.le_refl _) _
          replace HP := Lib.hid (HP.out.trans (hbx.mono HP.out.size))
          (try replace HG9 := Lib.hid (ms_kept HG9.out hbx))
          (try replace HMo := Lib.hid (ms_kept HMo.out hbx))
          have BB := Lib.hid (Blk.new wh 26 #[.slice none 0 0, .int .i64 0, .int .i64 0, .int .i64 0, .int .i64 0])
          have hwh := HP.out.size
          clear hbx
          go_wp2
          refine ⟨xs_, ?_⟩
          refine anyB_one (i := 5) (by kernel_rfl) rfl rfl ?_
          intro wa0 hba0 K hK
          have hsa0 := hba0.size
          (try simp at hsa0)
          replace HP := Lib.hid (HP.out.trans (hba0.mono HP.out.size))
          (try replace BB := Lib.hid (BB.out.kept hba0))
          (try replace HG9 := Lib.hid (ms_kept HG9.out hba0))
          (try replace HMo := Lib.hid (ms_kept HMo.out hba0))
          go_wp2_with fail
          refine (HS0.out _ _ _ (ms_kept HI.out.r HP.out)).mono ?_
          rintro e wb0 ⟨g, cg, rfl, hg9, hbb0⟩
          have hsb0 := hbb0.size
          have HG9 := Lib.hid hg9; clear hg9
          replace HP := Lib.hid (HP.out.trans (hbb0.mono HP.out.size))
          (try replace BB := Lib.hid (BB.out.kept hbb0))
          go_wp2
          refine ⟨xs_, ?_⟩
          (refine anyB_quiet_at (by kernel_rfl) calm_panic xs_ 2 [6, 7, 8] _ _ (by kernel_rfl) (by decide +kernel) ?_; simp only [pickB, List.filterMap_cons, List.filterMap_nil, List.getElem?_toArray, List.getElem?_cons_zero, List.getElem?_cons_succ]; (repeat (first | ((first | (with_reducible refine quietL_plain rfl (fun K hK => ?_)) | (with_reducible refine quietL_want (by with_unfolding_all rfl) (fun K hK => ?_))); (apply Exists.intro; refine ⟨fun wx hx => ?_, ?_⟩; (· (have hcx := ifs_ex hx); simp [go_sem, *, ↓IntWalk.iteOmega] <;> (first | rfl | exact ⟨rfl, rfl⟩ | fail)); (simp only [Act.put, List.setIfInBounds_toArray, List.set_cons_zero, List.set_cons_succ]; refine hK _ ?_; clear hK K))) | ((with_reducible refine quietL_skip (by with_unfolding_all rfl) ?_); simp only [Act.put, List.setIfInBounds_toArray, List.set_cons_zero, List.set_cons_succ]))); refine quietL_nil ?_)
          refine anyB_one (i := 10) (by kernel_rfl) rfl rfl ?_
          intro wi hbi K hK
          have hsi := hbi.size
          (try simp at hsi)
          replace HP := Lib.hid (HP.out.trans (hbi.mono HP.out.size))
          replace BB := Lib.hid (BB.out.kept hbi)
          (try replace HG9 := Lib.hid (ms_kept HG9.out hbi))
          (try replace HMo := Lib.hid (ms_kept HMo.out hbi))
          have cB := BB.out.cell
          have fB := BB.out.frozen
          have lB := BB.out.lt
          go_wp2
          refine ⟨xs_, ?_⟩
          have BC := Lib.hid (put5_blk (v0 := .slice (some ⟨g, 0, none⟩) n cg) (v1 := .int .i64 a.lo) (v2 := .int .i64 a.hi) (v3 := .int .i64 a.cur) (v4 := .int .i64 a.lim) BB.out)
          have HPc := Lib.hid (put5_low (b := wh.heap.size) (v0 := .slice (some ⟨g, 0, none⟩) n cg) (v1 := .int .i64 a.lo) (v2 := .int .i64 a.hi) (v3 := .int .i64 a.cur) (v4 := .int .i64 a.lim) HP.out (by omega))
          (try replace HG9 := Lib.hid (ms_put5 (b := wh.heap.size) (v0 := .slice (some ⟨g, 0, none⟩) n cg) (v1 := .int .i64 a.lo) (v2 := .int .i64 a.hi) (v3 := .int .i64 a.cur) (v4 := .int .i64 a.lim) HG9.out BB.out))
          clear cB fB lB HP BB
          refine anyB_one (i := 11) (by kernel_rfl) rfl rfl ?_
          intro wj hbj K hK
          have hsj := hbj.size
          (try simp at hsj)
          go_wp2
          refine ⟨xs_, ?_⟩
          refine anyB_end (by kernel_rfl) ?_
          intro wk hbk
          have hsk := hbk.size
          simp only [Calm]
          have BE := Lib.hid ((BC.out.kept hbj).kept hbk)
          have HPe := Lib.hid ((HPc.out.trans (hbj.mono HPc.out.size)).trans (hbk.mono (by have := HPc.out.size; omega)))
          (try replace HG9 := Lib.hid (ms_kept (ms_kept HG9.out hbj) hbk))
          go_wp2_with fail
          go_meet
          case rel => exact ⟨wh.heap.size, g, cg, rfl, rfl, BE.out, HG9.out, HPe.out⟩
      rename World => w9
      obtain ⟨b9, g, cg, rfl, rfl, h9, hm, hb⟩ := hcut
      have HI9 := Lib.hid (HI.out.kept hb)
      have H9 := Lib.hid h9
      have HM9 := Lib.hid hm
      clear HI hb h9 hm HS0 cN lN
      obtain ⟨sw, hsw⟩ : ∃ sw, workL a (l.take i) = sw := ⟨_, rfl⟩
      rw [hsw] at HWn hwb
      clear z0 z1
      have hsw9 := HI9.out.low.size
      have hsk9 := HI9.out.lk.size
      have cN := HI9.out.bN.cell
      have lN := HI9.out.bN.lt
      have c9 := H9.out.cell
      have l9 := H9.out.lt
      rw [hsw]
      clear hsw
      have hw00 : IntKind.i64.wrap sw = sw := by rw [IntKind.wrap_i64]; omega
      go_upto_block 2 with fail
      go_cut [6] (fun s6 wx => s6 = .int .i64 (sw + wkA b o) ∧ Below w9.heap.size w9 wx)
      case first =>
        as_aux_lemma =>
          clear cN lN c9 l9 HS4 HGs HTk
          obtain ⟨set, hset⟩ : ∃ set, choiceA b o = set := ⟨_, rfl⟩
          have HSet := Lib.hid hset
          clear hset
          go_wp2_with fail
          go_loopw [6, 11] (fun s6 s11 wq => ∃ k : Nat, k ≤ n ∧ s11 = .int .i64 (k : Int) ∧ s6 = .int .i64 (sw + wkGo set o.c 0 (b.m.take k)) ∧ Below w9.heap.size w9 wq) (fun _ s11 _ => n - (intOf s11).toNat)
          case atStart => exact ⟨0, by omega, rfl, by rw [List.take_zero]; show _ = Value.int .i64 (sw + 0); rw [Int.add_zero], Below.refl _ _⟩
          case round =>
            rename World => wq
            obtain ⟨k, hk, rfl, rfl, hbq⟩ := hrel
            have HBq := Lib.hid hbq
            have hsq := hbq.size
            have HIq := HI9.out.kept hbq
            have H9q := H9.out.kept hbq
            have HM9q := ms_kept HM9.out hbq
            have cN := HIq.bN.cell
            have lN := HIq.bN.lt
            have c9 := H9q.cell
            have l9 := H9q.lt
            by_cases hlt2 : k < n
            · have hkl : k < b.m.length := by rw [HBl.out]; exact hlt2
              have hkl2 : k < (stepA b o).m.length := by rw [show (stepA b o).m.length = b.m.length from stepMs_len _ _ _ _]; exact hkl
              have hsn := wkGo_snoc set o.c b.m[k] (b.m.take k) 0
              rw [← List.take_succ_eq_append_getElem hkl, List.length_take, Nat.min_eq_left (Nat.le_of_lt hkl), Nat.zero_add] at hsn
              have hqk := HQb.out _ (List.getElem_mem hkl)
              have hbd := wkGo_bd (set := set) hoc (b.m.take k) 0 (fun x hx => HQb.out x (List.mem_of_mem_take hx))
              rw [List.length_take, Nat.min_eq_left (Nat.le_of_lt hkl)] at hbd
              obtain ⟨_, hatN⟩ := md_at HIq.r
              obtain ⟨bn, on', en, hbn, _, y1, _, _⟩ := hatN k hkl
              obtain ⟨_, hat9⟩ := md_at HM9q
              obtain ⟨b2, o2, e2, hb2, _, x1, x2, _⟩ := hat9 k hkl2
              cases e2
              have z1 := (HIq.low.cell (p := ⟨bo, oo + i * 2 + 1, none⟩) (by simp; omega)).trans HZ1w.out
              have hbo2 : bo < wq.heap.size := by have := HIq.low.size; omega
              rw [wk_at hkl hkl2, HSet.out] at x1 x2
              rw [Nat.zero_add] at x1 x2
              clear hatN hat9 hbq HIq H9q HM9q
              generalize b.m[k] = x at *
              obtain ⟨xn, xq, xo, xb⟩ := x
              unfold stepM at x1 x2
              dsimp only at y1 x1 x2 hqk hsn
              obtain ⟨on, hon⟩ : ∃ on, hasI set (k : Int) = on := ⟨_, rfl⟩
              rw [hon] at x1 x2 hsn
              generalize wkGo set o.c 0 (b.m.take k) = t0 at *
              clear hon
              subst en
              cases on with
              | false =>
                rw [if_neg (by decide), Int.add_zero] at hsn
                have HSn := Lib.hid hsn
                clear hsn x1 y1 z1
                go_wp2_with fail
                go_roundw
                case rel => exact ⟨k + 1, by omega, by go_num, by rw [HSn.out], HBq.out⟩
                case measure => simp [intOf]; omega
              | true =>
                rw [if_pos rfl] at hsn x1
                have HSn := Lib.hid hsn
                clear hsn
                have hmb := mul_bd (s := xq + (xq + o.c)) hoc (by omega)
                have hw1 : IntKind.i64.wrap (xq + (xq + o.c)) = xq + (xq + o.c) := by rw [IntKind.wrap_i64]; omega
                have hw2 : IntKind.i64.wrap (o.c * (xq + (xq + o.c))) = o.c * (xq + (xq + o.c)) := by rw [IntKind.wrap_i64]; omega
                have hw3 : IntKind.i64.wrap (sw + t0 + o.c * (xq + (xq + o.c))) = sw + t0 + o.c * (xq + (xq + o.c)) := by rw [IntKind.wrap_i64]; omega
                go_wp2_with fail
                (refine wp_region_calm [] [0, 1, 2, 3, 4, 5, 6, 7, 8, 9, 10, 11, 12, 13, 14, 15, 16, 17, 18, 19, 20] 1 (by kernel_rfl) rfl (by kernel_rfl) (by kernel_rfl) (by kernel_rfl) ?_; simp only [pickB, List.filterMap_cons, List.filterMap_nil, List.getElem?_toArray, List.getElem?_cons_zero, List.getElem?_cons_succ]; (repeat (first | ((first | (with_reducible refine quietL_plain rfl (fun K hK => ?_)) | (with_reducible refine quietL_want (by with_unfolding_all rfl) (fun K hK => ?_))); (apply Exists.intro; refine ⟨fun wx hx => ?_, ?_⟩; (· (have hcx := ifs_ex hx); simp [go_sem, *, ↓IntWalk.iteOmega] <;> (first | rfl | exact ⟨rfl, rfl⟩ | fail)); (simp only [Act.put, List.setIfInBounds_toArray, List.set_cons_zero, List.set_cons_succ]; refine hK _ ?_; clear hK K))) | ((with_reducible refine quietL_skip (by with_unfolding_all rfl) ?_); simp only [Act.put, List.setIfInBounds_toArray, List.set_cons_zero, List.set_cons_succ]))); refine quietL_nil ?_)
                (refine anyB_one (i := 21) (by kernel_rfl) rfl rfl ?_; intro w91 hb91 K hK; have hs91 := hb91.size; (try simp at hs91); go_wp2; refine ⟨xs_, ?_⟩)
                (refine anyB_end (by kernel_rfl) ?_; intro w92 hb92; have hs92 := hb92.size; (try simp at hs92); simp only [Calm])
                have HB9 := Lib.hid ((HBq.out.trans (hb91.mono hsq)).trans (hb92.mono (by omega)))
                clear hb91 hb92 cN lN c9 l9 x1 x2 y1 z1
                go_wp2_with fail
                go_roundw
                case rel => exact ⟨k + 1, by omega, by go_num, by rw [HSn.out]; go_num, HB9.out⟩
                case measure => simp [intOf]; omega
            · obtain rfl : k = n := by omega
              have HWk : Hid (wkA b o = wkGo set o.c 0 (b.m.take k)) := Lib.hid (by
                show wkGo (choiceA b o) o.c 0 b.m = _
                rw [HSet.out, List.take_of_length_le (by rw [HBl.out]; exact Nat.le_refl _)])
              clear hbq HIq H9q HM9q
              go_wp2_with fail
              go_meet
              case rel => exact ⟨by rw [HWk.out], HBq.out⟩
      rename World => wx
      obtain ⟨rfl, hb⟩ := hcut
      have HIx := Lib.hid (HI9.out.kept hb)
      have H9x := Lib.hid (H9.out.kept hb)
      have HM9x := Lib.hid (ms_kept HM9.out hb)
      clear hb HI9 H9 HM9 cN lN c9 l9
      have HM9 := HM9x
      clear HM9x
      have cN := HIx.out.bN.cell
      have lN := HIx.out.bN.lt
      have fN := HIx.out.bN.frozen
      have hlt9 := HIx.out.lt
      have HR : Hid (RwI w w1 w1.heap.size A n c a (some ⟨g, 0, none⟩) cg (stepA b o).m (((((wx.setCell ⟨w1.heap.size, 0, none⟩ (.slice (some ⟨g, 0, none⟩) n cg)).setCell ⟨w1.heap.size, 1, none⟩ (.int .i64 a.lo)).setCell ⟨w1.heap.size, 2, none⟩ (.int .i64 a.hi)).setCell ⟨w1.heap.size, 3, none⟩ (.int .i64 a.cur)).setCell ⟨w1.heap.size, 4, none⟩ (.int .i64 a.lim))) := Lib.hid ⟨put5_far HIx.out.bA (by omega), put5_blk HIx.out.bN, ms_putR HM9.out HIx.out.bN, put5_low HIx.out.low (by omega), put5_low HIx.out.lk (Nat.le_refl _), hlt9, Nat.le_refl _⟩
      have c9 := H9x.out.cell
      have l9 := H9x.out.lt
      go_wp2_with fail
      go_roundw
      case rel => exact ⟨i + 1, stepA b o, some ⟨g, 0, none⟩, cg, by omega, by go_num, by rw [HWn.out], by rw [HTk.out]; exact HGs, HR⟩
      case measure => simp [intOf]; omega
end Go.Proofs.YtfpjcnkfoehhmaaGreatDoor
