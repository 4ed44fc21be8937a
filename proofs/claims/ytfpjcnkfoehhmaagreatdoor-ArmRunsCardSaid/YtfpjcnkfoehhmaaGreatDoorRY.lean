/- Reference of the arm: Log (orders that are not refused). -/
import Derived.Test.YtfpjcnkfoehhmaaGreatDoorRW
import Derived.Test.YtfpjcnkfoehhmaaGreatDoorQn
import Derived.Test.YtfpjcnkfoehhmaaGreatDoorDG
namespace Go.Proofs.YtfpjcnkfoehhmaaGreatDoor
open Go.RowKit Go.Sort Go.Shelf
set_option linter.unusedSimpArgs false
set_option linter.unusedVariables false
attribute [local go_sem] cell_if frozen_if grow_cell
/-- Between two orders: the arm's row by block, the log. -/
structure RlI (w wk : World) (nb base : Nat) (A : Option Addr) (n c : Nat) (a : Ar) (g' c' : Nat) (rest : List Value) (m : List Md) (v : Value) (vs : List Value) (lg : List (List Int)) (W : World) : Prop where
  bA : Blk W w.heap.size 26 #[.slice A n c, .int .i64 a.lo, .int .i64 a.hi, .int .i64 a.cur, .int .i64 a.lim]
  bN : Blk W nb 26 #[.slice (some ⟨g', 0, none⟩) n c', .int .i64 a.lo, .int .i64 a.hi, .int .i64 a.cur, .int .i64 a.lim]
  row : Blk W g' 74 (mds m ++ rest).toArray
  low : Below w.heap.size w W
  out : W.ownsRow base 65 1 v lg.length vs
  len : vs.length = lg.length
  inn : ∀ (i : Nat) (u : Value), vs[i]? = some u → ∃ l, lg[i]? = some l ∧ W.ownsRow base 75 1 u l.length (smps l)
  bs : base ≤ W.heap.size
section
variable {w wk : World} {nb base : Nat} {A : Option Addr} {n c : Nat} {a : Ar} {g' c' : Nat} {rest : List Value} {m : List Md} {v : Value} {vs : List Value} {lg : List (List Int)} {W W' : World}
theorem RlI.kept (h : RlI w wk nb base A n c a g' c' rest m v vs lg W) (hb : Below W.heap.size W W') : RlI w wk nb base A n c a g' c' rest m v vs lg W' :=
  ⟨h.bA.kept hb, h.bN.kept hb, h.row.kept hb, h.low.trans (hb.mono h.low.size), own_kept h.out hb, h.len, fun i u hu => let ⟨l, h1, h2⟩ := h.inn i u hu; ⟨l, h1, own_kept h2 hb⟩, Nat.le_trans h.bs hb.size⟩
theorem RlI.ms (h : RlI w wk nb base A n c a g' c' rest m v vs lg W) (hm : m.length = n) : MsAt W W.heap.size (some ⟨g', 0, none⟩) n m := by
  have := mdr_at h.row
  rwa [hm] at this
/-- Another arm is put into the variable. -/
theorem RlI.put {g2 c2 : Nat} {rest2 : List Value} {m2 : List Md} (h : RlI w wk nb base A n c a g' c' rest m v vs lg W) (h2 : Blk W g2 74 (mds m2 ++ rest2).toArray) (hw : w.heap.size < nb) :
    RlI w wk nb base A n c a g2 c2 rest2 m2 v vs lg (((((W.setCell ⟨nb, 0, none⟩ (.slice (some ⟨g2, 0, none⟩) n c2)).setCell ⟨nb, 1, none⟩ (.int .i64 a.lo)).setCell ⟨nb, 2, none⟩ (.int .i64 a.hi)).setCell ⟨nb, 3, none⟩ (.int .i64 a.cur)).setCell ⟨nb, 4, none⟩ (.int .i64 a.lim)) := by
  have e5 : ∀ (V : World) (p : Addr) (u : Value), (V.setCell p u).heap.size = V.heap.size := fun V p u => by simp [World.setCell]
  refine ⟨put5_far h.bA (by omega), put5_blk h.bN, put5_far h2 (blk_ne h2 h.bN (by decide)), put5_low h.low (by omega), ?_, h.len, fun i u hu => ?_, by rw [e5, e5, e5, e5, e5]; exact h.bs⟩
  · exact row_same h.out fun j c hj => put5_far hj (blk_ne hj h.bN (by decide))
  · obtain ⟨l, h1, h2⟩ := h.inn i u hu
    exact ⟨l, h1, row_same h2 fun j c hj => put5_far hj (blk_ne hj h.bN (by decide))⟩
/-- The charges are added to the log. -/
theorem RlI.add {u v' : Value} {l : List Int} (h : RlI w wk nb base A n c a g' c' rest m v vs lg W) (hk : ∀ k t c, t ≠ 65 → Blk W k t c → Blk W' k t c) (hb : Below base W W') (hwb : w.heap.size ≤ base) (hu : W.ownsRow base 75 1 u l.length (smps l)) (ho : W'.ownsRow base 65 1 v' (lg.length + 1) (vs ++ [u])) :
    RlI w wk nb base A n c a g' c' rest m v' (vs ++ [u]) (lg ++ [l]) W' := by
  refine ⟨hk _ _ _ (by decide) h.bA, hk _ _ _ (by decide) h.bN, hk _ _ _ (by decide) h.row, h.low.trans (hb.mono hwb), by rw [List.length_append]; exact ho, by simp [h.len], fun i x hx => ?_, Nat.le_trans h.bs hb.size⟩
  by_cases hi : i < vs.length
  · rw [List.getElem?_append_left hi] at hx
    obtain ⟨l2, e1, e2⟩ := h.inn i x hx
    have hlen := h.len
    exact ⟨l2, by rw [List.getElem?_append_left (by omega)]; exact e1, row_same e2 fun j c hj => hk j _ c (by decide) hj⟩
  · rw [List.getElem?_append_right (by omega)] at hx
    have hi2 : i = vs.length := by
      have := (List.getElem?_eq_some_iff.1 hx).1
      simp at this
      omega
    subst hi2
    simp at hx
    subst hx
    exact ⟨l, by rw [h.len, List.getElem?_append_right (by omega)]; simp, row_same hu fun j c hj => hk j _ c (by decide) hj⟩
end
theorem smps_take {l : List Int} {k : Nat} (h : k < l.length) : smps (l.take (k + 1)) = smps (l.take k) ++ [.float .f32 (smp l[k])] := by
  unfold smps
  rw [List.take_succ_eq_append_getElem h, List.map_append]
  rfl
def rLogRes (w : World) (lg : List (List Int)) (e : Ending) (w' : World) : Prop := ∃ (v : Value) (vs : List Value), e = .returned (.tuple #[v, .int .i64 0]) ∧ w'.ownsRow w.heap.size 65 1 v lg.length vs ∧ (∀ (i : Nat) (u : Value), vs[i]? = some u → ∃ l, lg[i]? = some l ∧ w'.ownsRow w.heap.size 75 1 u l.length (smps l)) ∧ Below w.heap.size w w'
set_option maxRecDepth 100000 in
set_option maxHeartbeats 8000000 in
theorem rLog_any (B B2 : Nat) (A A2 : Option Addr) (n c n2 c2 : Nat) (a : Ar) (l : List Od) (w : World) (hM : MsAt w B A n a.m) (hB : B ≤ w.heap.size) (hn : n ≤ 17) (hF : FitA a) (hE : armE a = 0) (hO : Reads w B2 2 A2 n2 (ods l)) (hB2 : B2 ≤ w.heap.size) (hn2 : n2 ≤ 1000) (ho : ∀ o ∈ l, orderE o = 0) (hfo : folE a l = 0) :
    Calls Tryz.prog 37 #[.agg #[.slice A n c, .int .i64 a.lo, .int .i64 a.hi, .int .i64 a.cur, .int .i64 a.lim], .slice A2 n2 c2] w (rLogRes w (logL a l)) := by
  have hl := (md_at hM).1
  obtain ⟨hl2, hat2⟩ := od_at hO
  have HOw := Lib.hid (fun W (hW : Below w.heap.size w W) => rOwn_any B A n c a W (hM.below (hW.mono hB)) (by have := hW.size; omega) (by omega))
  have HA2 := Lib.hid hat2
  have HEn := Lib.hid (And.intro hE (And.intro ho (And.intro hF hl)))
  have hB2s := hB2
  have HFo := Lib.hid hfo
  clear hM hO hat2 hE ho hF hfo
  go_enter Tryz.func37, Tryz.ntmps37
  go_wp2_with fail
  refine (HOw.out _ bl_).mono ?_
  rintro e w1 ⟨g1, cap1, rfl, hg, hb⟩
  have hs1 := hb.size
  simp at hs1
  have bA : Blk w1 w.heap.size 26 #[.slice A n c, .int .i64 a.lo, .int .i64 a.hi, .int .i64 a.cur, .int .i64 a.lim] := bk_
  have hlow : Below w.heap.size w w1 := bl_
  obtain ⟨rest, hg⟩ := own_rest hg
  rw [hl]
  have HG1 := Lib.hid hg
  have cA := bA.cell
  have lA := bA.lt
  clear hb hg
  go_upto_block 0 with fail
  refine wp_world ?_
  intro W0 hW
  have hal : Below w1.heap.size w1 W0 := by rw [hW]; exact (Below.refl _ _).alloc (Nat.le_refl _) _
  have HRw : Hid (RlI w w1 w1.heap.size w1.heap.size A n c a g1 cap1 rest a.m (.slice none 0 0) [] [] W0) := Lib.hid ⟨bA.kept hal, by rw [hW]; exact Blk.new _ _ _, HG1.out.kept hal, hlow.trans (hal.mono (by omega)), World.ownsRow_nil _ _ _ _, rfl, fun i u hu => by simp at hu, hal.size⟩
  have hw1 : w.heap.size + 1 ≤ w1.heap.size := by omega
  have hBl := bA.lt
  clear hal hW HG1 cA lA bA hlow hs1
  generalize hnbe : w1.heap.size = nb at *
  clear hnbe
  go_wp2_with fail
  go_loopw [6, 8, 11, 12] (fun s6 s8 _ _ wr => ∃ (i : Nat) (b : Ar) (g' c' : Nat) (rest : List Value) (v : Value) (vs : List Value), i ≤ n2 ∧ s8 = .int .i64 (i : Int) ∧ s6 = v ∧ Hid (goTo a (l.take i) = some b) ∧ Hid (RlI w w1 nb nb A n c a g' c' rest b.m v vs (logL a (l.take i)) wr)) (fun _ s8 _ _ _ => n2 - (intOf s8).toNat)
  case atStart => exact ⟨0, a, _, _, _, _, _, by omega, rfl, rfl, Lib.hid rfl, HRw⟩
  case round =>
    clear HRw
    obtain ⟨i, b, g', c', rest, v, vs, hi, rfl, rfl, HG, HI⟩ := hrel
    obtain ⟨hEb, hS4⟩ := goTo_ok HEn.out.1 (fun x hx => HEn.out.2.1 x (List.mem_of_mem_take hx)) HG.out
    have HEb := Lib.hid hEb
    have HS4 := Lib.hid hS4
    clear hEb hS4
    have hsr := HI.out.low.size
    have hsb := HI.out.bs
    have cN := HI.out.bN.cell
    have lN := HI.out.bN.lt
    by_cases hlt : i < n2
    case neg =>
      obtain rfl : i = n2 := by omega
      have hIi := HI.out
      rw [List.take_of_length_le (by omega)] at hIi
      have HI2 := Lib.hid hIi
      clear HG HI hIi cN lN
      go_wp2_with fail
      go_ret2
      exact ⟨_, _, rfl, row_base HI2.out.out (by omega), fun i u hu => let ⟨l, h1, h2⟩ := HI2.out.inn i u hu; ⟨l, h1, row_base h2 (by omega)⟩, HI2.out.low⟩
    case pos =>
    have HWs := Lib.hid (fun o => logL_snoc (o := o) HG.out)
    have hbl0 : b.m.length = n := HS4.out.len.trans HEn.out.2.2.2
    have hil : i < l.length := by omega
    obtain ⟨bo, oo, eA2, hbo, z0, z1⟩ := HA2.out i hil
    have hbow : bo < wr.heap.size := by omega
    have HZ1w := Lib.hid z1
    have z0 := (HI.out.low.cell (p := ⟨bo, oo + i * 2, none⟩) (by simp; omega)).trans z0
    have z1 := (HI.out.low.cell (p := ⟨bo, oo + i * 2 + 1, none⟩) (by simp; omega)).trans z1
    have hok : orderE l[i] = 0 := HEn.out.2.1 _ (List.getElem_mem hil)
    have hbln : b.m.length = n := HS4.out.len.trans HEn.out.2.2.2
    have hbm := same_mk HS4.out
    have HS := Lib.hid (fun W A c (hm : MsAt W W.heap.size A n b.m) => rStep_any W.heap.size A n c b l[i] W hm (Nat.le_refl _) hn HEb.out hok)
    rw [hbm] at HS
    unfold RStRes at HS
    dsimp only at HS
    rw [hbln] at HS
    rw [← hbm] at HS
    have HTk : Hid (l.take (i + 1) = l.take i ++ [l[i]]) := Lib.hid (List.take_succ_eq_append_getElem hil)
    have HNo := Lib.hid (fun h => run_atR hil HG.out h)
    have HGs := Lib.hid (goTo_snoc (o := l[i]) HG.out)
    have HOk := Lib.hid hok
    subst eA2
    clear hok hbln hbm
    generalize l[i] = o at *
    obtain ⟨er, her⟩ : ∃ er, stepE b o = er := ⟨_, rfl⟩
    rw [her] at HS HNo HGs
    have HEr := Lib.hid her
    clear her hil
    have HLn : Hid (logL a (l.take (i + 1)) = logL a (l.take i) ++ [(stepA b o).m.map Md.q]) := Lib.hid (by rw [HTk.out]; exact HWs.out o)
    have hml : (stepA b o).m.length = n := (stepMs_len _ _ _ _).trans hbl0
    have hll : (logL a (l.take i)).length = i := by rw [log_len, List.length_take]; omega
    have h0 : er = 0 := by
      by_cases h : er = 0
      · exact h
      · have h2 := HNo.out h
        have h3 := HFo.out
        unfold folE at h3
        rw [h2] at h3
        exact h3
    clear HWs
    subst h0
    rw [if_pos rfl] at HGs
    have HS0 := Lib.hid (fun W A c hm => (HS.out W A c hm).mono (fun e w' (h : _ ∧ _) => show ∃ g cg rest2, e = .returned (.tuple #[.agg #[.slice (some ⟨g, 0, none⟩) n cg, .int .i64 a.lo, .int .i64 a.hi, .int .i64 a.cur, .int .i64 a.lim], .int .i64 0]) ∧ Blk w' g 74 (mds (stepA b o).m ++ rest2).toArray ∧ Below W.heap.size W w' from by
      obtain ⟨hb, ⟨_, g, cg, h1, _, _, rest2, h2⟩ | ⟨h1, _⟩⟩ := h
      · exact ⟨g, cg, rest2, h1, h2, hb⟩
      · exact absurd rfl h1))
    clear HS HNo
    obtain ⟨M, hM⟩ : ∃ M, (stepA b o).m = M := ⟨_, rfl⟩
    rw [hM] at HS0 HLn hml
    have HMe := Lib.hid hM
    clear hM
    obtain ⟨lg, hlg⟩ : ∃ lg, logL a (l.take i) = lg := ⟨_, rfl⟩
    rw [hlg] at HI HLn hll
    have hlb : lg.length ≤ 1000 := by omega
    clear hlg hll
    go_upto_region 6 with fail
    go_cut [9, 10] (fun s9 s10 wx => ∃ (b9 g cg : Nat) (rest2 : List Value), s9 = .pointer (some ⟨b9, 0, none⟩) ∧ s10 = .int .i64 0 ∧ Blk wx b9 26 #[.slice (some ⟨g, 0, none⟩) n cg, .int .i64 a.lo, .int .i64 a.hi, .int .i64 a.cur, .int .i64 a.lim] ∧ Blk wx g 74 (mds M ++ rest2).toArray ∧ Below wr.heap.size wr wx)
    case first =>
      as_aux_lemma =>
        have HP := Lib.hid (Below.refl wr.heap.size wr)
        (refine wp_region_calm [] [0, 1, 2, 3, 4] 7 (by kernel_rfl) rfl (by kernel_rfl) (by kernel_rfl) (by kernel_rfl) ?_; simp only [pickB, List.filterMap_cons, List.filterMap_nil, List.getElem?_toArray, List.getElem?_cons_zero, List.getElem?_cons_succ]; (repeat (first | ((first | (with_reducible refine quietL_plain rfl (fun K hK => ?_)) | (with_reducible refine quietL_want (by with_unfolding_all rfl) (fun K hK => ?_))); (apply Exists.intro; refine ⟨fun wx hx => ?_, ?_⟩; (· (have hcx := ifs_ex hx); simp [go_sem, *, ↓IntWalk.iteOmega] <;> (first | rfl | exact ⟨rfl, rfl⟩ | skip)); (simp only [Act.put, List.setIfInBounds_toArray, List.set_cons_zero, List.set_cons_succ]; refine hK _ ?_; clear hK K))) | ((with_reducible refine quietL_skip (by with_unfolding_all rfl) ?_); simp only [Act.put, List.setIfInBounds_toArray, List.set_cons_zero, List.set_cons_succ]))); refine quietL_nil ?_)
        refine anyB_two (i := 5) (j := 9) (by kernel_rfl) rfl rfl rfl rfl ?_ ?_
        · skip
          intro wa0 hba0 K hK
          have hsa0 := hba0.size
          (try simp at hsa0)
          replace HP := Lib.hid (HP.out.trans (hba0.mono HP.out.size))
          (try replace BB := Lib.hid (BB.out.kept hba0))
          (try replace HG9 := Lib.hid (Blk.kept HG9.out hba0))
          (try replace HMo := Lib.hid (ms_kept HMo.out hba0))
          go_wp2_with fail
          refine (HS0.out _ _ _ (ms_kept (HI.out.ms hbl0) HP.out)).mono ?_
          rintro e wb0 ⟨g, cg, rest2, rfl, hg9, hbb0⟩
          have hsb0 := hbb0.size
          have HG9 := Lib.hid hg9; clear hg9
          replace HP := Lib.hid (HP.out.trans (hbb0.mono HP.out.size))
          (try replace BB := Lib.hid (BB.out.kept hbb0))
          go_wp2
          refine ⟨xs_, ?_⟩
          (refine anyB_quiet_at (by kernel_rfl) calm_panic xs_ 3 [6, 7, 8] _ _ (by kernel_rfl) (by decide +kernel) ?_; simp only [pickB, List.filterMap_cons, List.filterMap_nil, List.getElem?_toArray, List.getElem?_cons_zero, List.getElem?_cons_succ]; (repeat (first | ((first | (with_reducible refine quietL_plain rfl (fun K hK => ?_)) | (with_reducible refine quietL_want (by with_unfolding_all rfl) (fun K hK => ?_))); (apply Exists.intro; refine ⟨fun wx hx => ?_, ?_⟩; (· (have hcx := ifs_ex hx); simp [go_sem, *, ↓IntWalk.iteOmega] <;> (first | rfl | exact ⟨rfl, rfl⟩ | fail)); (simp only [Act.put, List.setIfInBounds_toArray, List.set_cons_zero, List.set_cons_succ]; refine hK _ ?_; clear hK K))) | ((with_reducible refine quietL_skip (by with_unfolding_all rfl) ?_); simp only [Act.put, List.setIfInBounds_toArray, List.set_cons_zero, List.set_cons_succ]))); refine quietL_nil ?_)
          refine anyB_one (i := 9) (by kernel_rfl) rfl rfl ?_
          intro wh hbh K hK
          have hsh := hbh.size
          (try simp at hsh)
          replace HP := Lib.hid (HP.out.trans (hbh.mono HP.out.size))
          (try replace HG9 := Lib.hid (Blk.kept HG9.out hbh))
          (try replace HMo := Lib.hid (ms_kept HMo.out hbh))
          have hbx : Below wh.heap.size wh (wh.alloc (.cells #[.slice none 0 0, .int .i64 0, .int .i64 0, .int .i64 0, .int .i64 0] 26)) := (Below.refl _ _).alloc (Nat.le_refl _) _
          replace HP := Lib.hid (HP.out.trans (hbx.mono HP.out.size))
          (try replace HG9 := Lib.hid (Blk.kept HG9.out hbx))
          (try replace HMo := Lib.hid (ms_kept HMo.out hbx))
          have BB := Lib.hid (Blk.new wh 26 #[.slice none 0 0, .int .i64 0, .int .i64 0, .int .i64 0, .int .i64 0])
          have hwh := HP.out.size
          clear hbx
          go_wp2
          refine ⟨xs_, ?_⟩
          refine anyB_one (i := 10) (by kernel_rfl) rfl rfl ?_
          intro wi hbi K hK
          have hsi := hbi.size
          (try simp at hsi)
          replace HP := Lib.hid (HP.out.trans (hbi.mono HP.out.size))
          replace BB := Lib.hid (BB.out.kept hbi)
          (try replace HG9 := Lib.hid (Blk.kept HG9.out hbi))
          (try replace HMo := Lib.hid (ms_kept HMo.out hbi))
          have cB := BB.out.cell
          have fB := BB.out.frozen
          have lB := BB.out.lt
          go_wp2
          refine ⟨xs_, ?_⟩
          have BC := Lib.hid (put5_blk (v0 := .slice (some ⟨g, 0, none⟩) n cg) (v1 := .int .i64 a.lo) (v2 := .int .i64 a.hi) (v3 := .int .i64 a.cur) (v4 := .int .i64 a.lim) BB.out)
          have HPc := Lib.hid (put5_low (b := wh.heap.size) (v0 := .slice (some ⟨g, 0, none⟩) n cg) (v1 := .int .i64 a.lo) (v2 := .int .i64 a.hi) (v3 := .int .i64 a.cur) (v4 := .int .i64 a.lim) HP.out (by omega))
          replace HG9 := Lib.hid (put5_far (b := wh.heap.size) (v0 := .slice (some ⟨g, 0, none⟩) n cg) (v1 := .int .i64 a.lo) (v2 := .int .i64 a.hi) (v3 := .int .i64 a.cur) (v4 := .int .i64 a.lim) HG9.out (blk_ne HG9.out BB.out (by decide)))
          clear cB fB lB HP BB
          refine anyB_one (i := 11) (by kernel_rfl) rfl rfl ?_
          intro wj hbj K hK
          have hsj := hbj.size
          (try simp at hsj)
          go_wp2
          refine ⟨xs_, ?_⟩
          refine anyB_end (by kernel_rfl) ?_
          intro wk hbk
          have hsk := hbk.size
          simp only [Calm]
          have BE := Lib.hid ((BC.out.kept hbj).kept hbk)
          have HPe := Lib.hid ((HPc.out.trans (hbj.mono HPc.out.size)).trans (hbk.mono (by have := HPc.out.size; omega)))
          replace HG9 := Lib.hid ((HG9.out.kept hbj).kept hbk)
          go_wp2_with fail
          go_meet
          case rel => exact ⟨wh.heap.size, g, cg, rest2, rfl, rfl, BE.out, HG9.out, HPe.out⟩
        · skip
          intro wh hbh K hK
          have hsh := hbh.size
          (try simp at hsh)
          replace HP := Lib.hid (HP.out.trans (hbh.mono HP.out.size))
          (try replace HG9 := Lib.hid (Blk.kept HG9.out hbh))
          (try replace HMo := Lib.hid (ms_kept HMo.out hbh))
          have hbx : Below wh.heap.size wh (wh.alloc (.cells #[.slice none 0 0, .int .i64 0, .int .i64 0, .int .i64 0, .int .i64 0] 26)) := (Below.refl _ _).alloc (Nat.le_refl _) _
          replace HP := Lib.hid (HP.out.trans (hbx.mono HP.out.size))
          (try replace HG9 := Lib.hid (Blk.kept HG9.out hbx))
          (try replace HMo := Lib.hid (ms_kept HMo.out hbx))
          have BB := Lib.hid (Blk.new wh 26 #[.slice none 0 0, .int .i64 0, .int .i64 0, .int .i64 0, .int .i64 0])
          have hwh := HP.out.size
          clear hbx
          go_wp2
          refine ⟨xs_, ?_⟩
          refine anyB_one (i := 5) (by kernel_rfl) rfl rfl ?_
          intro wa0 hba0 K hK
          have hsa0 := hba0.size
          (try simp at hsa0)
          replace HP := Lib.hid (HP.out.trans (hba0.mono HP.out.size))
          (try replace BB := Lib.hid (BB.out.kept hba0))
          (try replace HG9 := Lib.hid (Blk.kept HG9.out hba0))
          (try replace HMo := Lib.hid (ms_kept HMo.out hba0))
          go_wp2_with fail
          refine (HS0.out _ _ _ (ms_kept (HI.out.ms hbl0) HP.out)).mono ?_
          rintro e wb0 ⟨g, cg, rest2, rfl, hg9, hbb0⟩
          have hsb0 := hbb0.size
          have HG9 := Lib.hid hg9; clear hg9
          replace HP := Lib.hid (HP.out.trans (hbb0.mono HP.out.size))
          (try replace BB := Lib.hid (BB.out.kept hbb0))
          go_wp2
          refine ⟨xs_, ?_⟩
          (refine anyB_quiet_at (by kernel_rfl) calm_panic xs_ 2 [6, 7, 8] _ _ (by kernel_rfl) (by decide +kernel) ?_; simp only [pickB, List.filterMap_cons, List.filterMap_nil, List.getElem?_toArray, List.getElem?_cons_zero, List.getElem?_cons_succ]; (repeat (first | ((first | (with_reducible refine quietL_plain rfl (fun K hK => ?_)) | (with_reducible refine quietL_want (by with_unfolding_all rfl) (fun K hK => ?_))); (apply Exists.intro; refine ⟨fun wx hx => ?_, ?_⟩; (· (have hcx := ifs_ex hx); simp [go_sem, *, ↓IntWalk.iteOmega] <;> (first | rfl | exact ⟨rfl, rfl⟩ | fail)); (simp only [Act.put, List.setIfInBounds_toArray, List.set_cons_zero, List.set_cons_succ]; refine hK _ ?_; clear hK K))) | ((with_reducible refine quietL_skip (by with_unfolding_all rfl) ?_); simp only [Act.put, List.setIfInBounds_toArray, List.set_cons_zero, List.set_cons_succ]))); refine quietL_nil ?_)
          refine anyB_one (i := 10) (by kernel_rfl) rfl rfl ?_
          intro wi hbi K hK
          have hsi := hbi.size
          (try simp at hsi)
          replace HP := Lib.hid (HP.out.trans (hbi.mono HP.out.size))
          replace BB := Lib.hid (BB.out.kept hbi)
          (try replace HG9 := Lib.hid (Blk.kept HG9.out hbi))
          (try replace HMo := Lib.hid (ms_kept HMo.out hbi))
          have cB := BB.out.cell
          have fB := BB.out.frozen
          have lB := BB.out.lt
          go_wp2
          refine ⟨xs_, ?_⟩
          have BC := Lib.hid (put5_blk (v0 := .slice (some ⟨g, 0, none⟩) n cg) (v1 := .int .i64 a.lo) (v2 := .int .i64 a.hi) (v3 := .int .i64 a.cur) (v4 := .int .i64 a.lim) BB.out)
          have HPc := Lib.hid (put5_low (b := wh.heap.size) (v0 := .slice (some ⟨g, 0, none⟩) n cg) (v1 := .int .i64 a.lo) (v2 := .int .i64 a.hi) (v3 := .int .i64 a.cur) (v4 := .int .i64 a.lim) HP.out (by omega))
          replace HG9 := Lib.hid (put5_far (b := wh.heap.size) (v0 := .slice (some ⟨g, 0, none⟩) n cg) (v1 := .int .i64 a.lo) (v2 := .int .i64 a.hi) (v3 := .int .i64 a.cur) (v4 := .int .i64 a.lim) HG9.out (blk_ne HG9.out BB.out (by decide)))
          clear cB fB lB HP BB
          refine anyB_one (i := 11) (by kernel_rfl) rfl rfl ?_
          intro wj hbj K hK
          have hsj := hbj.size
          (try simp at hsj)
          go_wp2
          refine ⟨xs_, ?_⟩
          refine anyB_end (by kernel_rfl) ?_
          intro wk hbk
          have hsk := hbk.size
          simp only [Calm]
          have BE := Lib.hid ((BC.out.kept hbj).kept hbk)
          have HPe := Lib.hid ((HPc.out.trans (hbj.mono HPc.out.size)).trans (hbk.mono (by have := HPc.out.size; omega)))
          replace HG9 := Lib.hid ((HG9.out.kept hbj).kept hbk)
          go_wp2_with fail
          go_meet
          case rel => exact ⟨wh.heap.size, g, cg, rest2, rfl, rfl, BE.out, HG9.out, HPe.out⟩
    rename World => w9
    obtain ⟨b9, g, cg, rest2, rfl, rfl, h9, hm, hb⟩ := hcut
    have HI9 := Lib.hid (HI.out.kept hb)
    have H9 := Lib.hid h9
    have HM9 := Lib.hid hm
    clear HI hb h9 hm HS0 cN lN z0 z1
    as_aux_lemma =>
      have c9 := H9.out.cell
      have l9 := H9.out.lt
      have cN := HI9.out.bN.cell
      have lN := HI9.out.bN.lt
      have fN := HI9.out.bN.frozen
      have HP9 := Lib.hid (HI9.out.put (c2 := cg) HM9.out (by omega))
      go_upto_region 10 with fail
      refine wp_world ?_
      intro wy hwy
      have HIy : Hid (RlI w w1 nb nb A n c a g cg rest2 M u6 vs lg wy) := by rw [hwy]; exact HP9
      clear hwy c9 l9 cN lN fN HP9 HI9 H9 HM9
      have hsy := HIy.out.low.size
      have hsby := HIy.out.bs
      have cN := HIy.out.bN.cell
      have lN := HIy.out.bN.lt
      go_upto_block 2 with fail
      go_cut [11] (fun s11 wx => ∃ u : Value, s11 = u ∧ wx.ownsRow wy.heap.size 75 1 u n (smps (M.map Md.q)) ∧ Below wy.heap.size wy wx)
      case first =>
        as_aux_lemma =>
          clear cN lN HG HTk HGs HLn HS4
          go_wp2_with fail
          go_loopw [11, 12] (fun s11 s12 wq => ∃ (k : Nat) (u : Value), k ≤ n ∧ s12 = .int .i64 (k : Int) ∧ s11 = u ∧ wq.ownsRow wy.heap.size 75 1 u k (smps ((M.map Md.q).take k)) ∧ Below wy.heap.size wy wq) (fun _ s12 _ => n - (intOf s12).toNat)
          case atStart => exact ⟨0, _, by omega, rfl, rfl, World.ownsRow_nil _ _ _ _, Below.refl _ _⟩
          case round =>
            rename World => wq
            obtain ⟨k, u, hk, rfl, rfl, hu, hbq⟩ := hrel
            have HBq := Lib.hid hbq
            have HU := Lib.hid hu
            have hsq := hbq.size
            have hIq := HIy.out.kept hbq
            have cN := hIq.bN.cell
            have lN := hIq.bN.lt
            by_cases hlt2 : k < n
            · have hkl : k < M.length := by omega
              have hkq : k < (M.map Md.q).length := by rw [List.length_map]; exact hkl
              have HSt := Lib.hid (smps_take hkq)
              have hx := mdr_cells hIq.row (List.getElem?_eq_getElem hkl)
              obtain ⟨_, x1, _, _⟩ := hx
              have hgl := hIq.row.lt
              have eq : (M.map Md.q)[k] = (M[k]).q := by simp
              rw [eq] at HSt
              generalize (M[k]).q = qk at *
              clear hbq hu hIq eq
              go_wp2_with fail
              refine (Sample_any _ _).mono ?_
              rintro e wq' ⟨rfl, rfl⟩
              go_wp2_with (at_builtin; refine wpList_app 65 75 1 4 elemF32 rfl (.tmp 41) (.tmp 49) rfl wy.heap.size _ k _ rfl HU.out 1 rfl rfl ?h1 (by decide) ?h3 (by omega) hsq ?_)
              case h1 => first | rfl | (intro u hu; simp at hu; subst hu; rfl)
              case h3 => unfold maxLen; omega
              intro g6 cap6 w6 hown6 hb6 _ hs6
              have HO6 := Lib.hid hown6
              have HB6 := Lib.hid (HBq.out.trans (hb6.mono (Nat.le_refl _)))
              clear hown6 hb6 cN lN x1
              go_wp2_with fail
              go_roundw
              case rel => exact ⟨k + 1, _, by omega, by go_num, rfl, by rw [HSt.out]; exact HO6.out, HB6.out⟩
              case measure => simp [intOf]; omega
            · obtain rfl : k = n := by omega
              have hU := HU.out
              rw [List.take_of_length_le (by rw [List.length_map]; omega)] at hU
              have HU2 := Lib.hid hU
              clear hbq hu hIq hU
              go_wp2_with fail
              go_meet
              case rel => exact ⟨_, rfl, HU2.out, HBq.out⟩
      rename World => wz
      obtain ⟨u, rfl, hu, hb⟩ := hcut
      have HIz := Lib.hid (HIy.out.kept hb)
      have hu2 := row_base (base' := nb) hu hsby
      have HU := Lib.hid hu2
      clear hu hu2 hb HIy cN lN
      have hsz := HIz.out.bs
      have hszl := HIz.out.low.size
      go_upto_region 15 with fail
      obtain ⟨A11, c11, rfl, _, _, _⟩ := own_form HU.out
      obtain ⟨A6, c6, rfl, _, _, _⟩ := own_form HIz.out.out
      have HOut := Lib.hid HIz.out.out
      go_wp2_with (at_builtin; refine wpList_app 51 65 1 24 elemFF rfl (.tmp 51) (.tmp 53) rfl nb _ lg.length _ rfl HOut.out 1 rfl rfl ?q1 (by decide) ?q3 (by omega) hsz ?_)
      case q1 => first | rfl | (intro x hx; simp at hx; subst hx; rfl)
      case q3 => unfold maxLen; omega
      intro g6 cap6 w6 hown6 hb6 hkk hs6
      have HN6 : Hid (RlI w w1 nb nb A n c a g cg rest2 M (.slice (some ⟨g6, 0, none⟩) (lg.length + 1) cap6) (vs ++ [.slice A11 n c11]) (lg ++ [M.map Md.q]) w6) := Lib.hid (by
        refine HIz.out.add (fun k t c ht hk => hkk k t c hk (fun e => ?_)) hb6 (by omega) (by rw [List.length_map, hml]; exact HU.out) hown6
        rcases HOut.out.2 with ⟨h0, _⟩ | ⟨g2, cap2, cur, hv, _, hlt2, _⟩
        · rw [h0] at e; cases e
        · rw [hv] at e
          have : g2 = k := by simpa [Value.ownBlock] using e
          subst this
          rw [show wz.heap[g2]? = _ from hk] at hlt2
          cases hlt2
          exact ht rfl)
      clear hown6 hb6 hkk HOut HIz HU
      go_wp2_with fail
      go_roundw
      case rel => exact ⟨i + 1, stepA b o, g, cg, rest2, _, _, by omega, by go_num, rfl, by rw [HTk.out]; exact HGs, by rw [HMe.out, HLn.out]; exact HN6⟩
      case measure => simp [intOf]; omega
end Go.Proofs.YtfpjcnkfoehhmaaGreatDoor
