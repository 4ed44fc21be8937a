/- Reference of the arm: Mirrored. -/
import Derived.Test.YtjanojmgnpfjeaaGreatDoorRR
import Derived.Deep.DeepCutAuto
import Derived.Deep.CutBlock
namespace Go.Proofs.YtjanojmgnpfjeaaGreatDoor
open Go.RowKit Go.Sort Go.Shelf
set_option linter.unusedSimpArgs false
set_option linter.unusedVariables false
attribute [local go_sem] cell_if frozen_if grow_cell
def RMiRes (w : World) (a : Ar) (n : Nat) (e : Ending) (w' : World) : Prop := ∃ A c, e = .returned (.agg #[.slice A n c, .int .i64 (mirA a).lo, .int .i64 (mirA a).hi, .int .i64 (mirA a).cur, .int .i64 (mirA a).lim]) ∧ MsAt w' w'.heap.size A n (mirA a).m ∧ n ≤ c ∧ Below w.heap.size w w'
/-- Between two modules. -/
structure MiR (w : World) (A : Option Addr) (n c : Nat) (a : Ar) (b8 g cap : Nat) (rest : List Value) (L : List Md) (W : World) : Prop where
  arm : Blk W w.heap.size 26 #[.slice A n c, .int .i64 a.lo, .int .i64 a.hi, .int .i64 a.cur, .int .i64 a.lim]
  res : Blk W (w.heap.size + 1) 26 #[.slice none 0 0, .int .i64 0, .int .i64 0, .int .i64 0, .int .i64 0]
  out : Blk W b8 26 #[.slice (some ⟨g, 0, none⟩) n cap, .int .i64 a.lo, .int .i64 a.hi, .int .i64 a.cur, .int .i64 a.lim]
  row : Blk W g 109 (mds L ++ rest).toArray
  low : Below w.heap.size w W
  g1 : w.heap.size + 1 + 1 ≤ g
  g2 : b8 ≠ g
section
variable {w W W' : World} {A : Option Addr} {n c : Nat} {a : Ar} {b8 g cap : Nat} {rest : List Value} {L : List Md}
theorem MiR.kept (h : MiR w A n c a b8 g cap rest L W) (hb : Below W.heap.size W W') : MiR w A n c a b8 g cap rest L W' :=
  ⟨h.arm.kept hb, h.res.kept hb, h.out.kept hb, h.row.kept hb, h.low.trans (hb.mono h.low.size), h.g1, h.g2⟩
theorem MiR.put (h : MiR w A n c a b8 g cap rest L W) {k j : Nat} {x x' : Md} {u : Value} (hx : L[k]? = some x) (hj : j < 4) (hc : x'.cells = x.cells.set j u) : MiR w A n c a b8 g cap rest (L.set k x') (W.setCell ⟨g, k * 4 + j, none⟩ u) := by
  have g1 := h.g1
  have g2 := h.g2
  have hr := h.row.set_ (k * 4 + j) u
  rw [mdr_set hx hj hc] at hr
  exact ⟨h.arm.far (p := ⟨g, k * 4 + j, none⟩) (show w.heap.size ≠ g by omega) u, h.res.far (p := ⟨g, k * 4 + j, none⟩) (show w.heap.size + 1 ≠ g by omega) u, h.out.far (p := ⟨g, k * 4 + j, none⟩) g2 u, hr, h.low.setCell (p := ⟨g, k * 4 + j, none⟩) (show w.heap.size ≤ g by omega) u, g1, g2⟩
theorem MiR.cells (h : MiR w A n c a b8 g cap rest L W) {k : Nat} {x : Md} (hx : L[k]? = some x) : W.cell? ⟨g, k * 4, none⟩ = some (.string x.n) ∧ W.cell? ⟨g, k * 4 + 1, none⟩ = some (.int .i64 x.q) ∧ W.cell? ⟨g, k * 4 + 2, none⟩ = some (.bool x.on) ∧ W.cell? ⟨g, k * 4 + 3, none⟩ = some (.bool x.by_) := mdr_cells h.row hx
end
set_option maxRecDepth 100000 in
set_option maxHeartbeats 8000000 in
theorem rMirrored_any (B : Nat) (A : Option Addr) (n c : Nat) (a : Ar) (w : World) (hM : MsAt w B A n a.m) (hB : B ≤ w.heap.size) (hn : n ≤ 17) (hE : armE a = 0) :
    Calls Tryz.prog 19 #[.agg #[.slice A n c, .int .i64 a.lo, .int .i64 a.hi, .int .i64 a.cur, .int .i64 a.lim]] w (RMiRes w a n) := by
  have hl := (md_at hM).1
  have hF := fit_of hE
  have HQ := Lib.hid hF.q
  have hlo := hF.lo
  have hhi := hF.hi
  have HOw := Lib.hid (fun W (hW : Below w.heap.size w W) => rOwn_any B A n c a W (hM.below (hW.mono hB)) (by have := hW.size; omega) (by omega))
  clear hM hE hF
  go_enter Tryz.func19, Tryz.ntmps19
  go_wp2_with fail
  refine (HOw.out _ bl_).mono ?_
  rintro e w3 ⟨g, cap, rfl, hg3, hb3⟩
  have hgl := hg3.lt.1
  simp at hgl
  have hcapn : n ≤ cap := by
    obtain ⟨A', c', e, h1, _, _⟩ := own_form (show w3.ownsRow _ _ 4 (.slice (some ⟨g, 0, none⟩) a.m.length cap) _ _ from hg3)
    cases e
    omega
  obtain ⟨rest, hg3⟩ := own_rest hg3
  have hs3 := hb3.size
  simp at hs3
  rw [hl]
  have HL3 : Hid (Below w.heap.size w w3) := Lib.hid bl_
  have HA3 : Hid (Blk w3 w.heap.size 26 #[.slice A n c, .int .i64 a.lo, .int .i64 a.hi, .int .i64 a.cur, .int .i64 a.lim]) := Lib.hid bk_
  have HR3 : Hid (Blk w3 (w.heap.size + 1) 26 #[.slice none 0 0, .int .i64 0, .int .i64 0, .int .i64 0, .int .i64 0]) := Lib.hid bk_
  have BG3 := Lib.hid hg3
  have hgl3 := hg3.lt
  clear hb3 hg3 HOw
  go_upto_region 2 with fail
  refine wp_world ?_
  intro W0 hW0
  have HSM : Hid (MiR w A n c a w3.heap.size g cap rest (mirK (a.lo + a.hi) a.m 0) W0) := by
    have hal : Below w3.heap.size w3 W0 := by rw [hW0]; exact bl_
    rw [mirK_zero]
    exact Lib.hid ⟨HA3.out.kept hal, HR3.out.kept hal, by rw [hW0]; exact Blk.new _ _ _, BG3.out.kept hal, HL3.out.trans (hal.mono (by omega)), by omega, by omega⟩
  generalize w3.heap.size = b8 at *
  clear hW0 HL3 HA3 HR3 BG3 hgl3
  go_upto_block 0 with fail
  go_cut [4] (fun s4 wx => Hid (MiR w A n c a b8 g cap rest (a.m.map (mirM (a.lo + a.hi))) wx))
  case first =>
    as_aux_lemma =>
      go_wp2_with fail
      go_loopw [4] (fun s4 wr => ∃ k : Nat, k ≤ n ∧ s4 = .int .i64 k ∧ Hid (MiR w A n c a b8 g cap rest (mirK (a.lo + a.hi) a.m k) wr)) (fun s4 _ => n - (intOf s4).toNat)
      case atStart => exact ⟨0, by omega, rfl, HSM⟩
      case round =>
        obtain ⟨k, hk, rfl, HS⟩ := hrel
        clear HSM
        have hg1 := HS.out.g1
        have hne8 : b8 ≠ g := HS.out.g2
        have hneA : w.heap.size ≠ g := by omega
        have cB := HS.out.out.cell
        have lB := HS.out.out.lt
        have cA := HS.out.arm.cell
        have lA := HS.out.arm.lt
        by_cases hlt : k < n
        · have hkl : k < a.m.length := by omega
          have hat := mirK_at (s := a.lo + a.hi) hkl
          have hSu := mirK_succ (s := a.lo + a.hi) hkl
          have hqk := HQ.out _ (List.getElem_mem hkl)
          obtain ⟨x, hx⟩ : ∃ x, a.m[k] = x := ⟨_, rfl⟩
          rw [hx] at hat hSu hqk
          obtain ⟨xn, xq, xo, xb⟩ := x
          dsimp only at hqk
          have HAt := Lib.hid hat
          obtain ⟨y0, y1, y2, y3⟩ := HS.out.cells hat
          dsimp only at y0 y1 y2 y3
          have lG := HS.out.row.lt
          clear hat hx
          cases xb with
          | true =>
            have HSu : Hid (mirK (a.lo + a.hi) a.m (k + 1) = mirK (a.lo + a.hi) a.m k) := Lib.hid (by
              rw [← hSu]
              have e : mirM (a.lo + a.hi) ⟨xn, xq, xo, true⟩ = ⟨xn, xq, xo, true⟩ := rfl
              rw [e]
              obtain ⟨h1, h2⟩ := List.getElem?_eq_some_iff.1 HAt.out
              rw [← h2]
              exact List.set_getElem_self h1)
            clear hSu
            go_wp2_with fail
            go_roundw
            case rel => exact ⟨k + 1, by omega, by go_num, by rw [HSu.out]; exact HS⟩
            case measure => simp [intOf]; omega
          | false =>
            have HSu : Hid ((mirK (a.lo + a.hi) a.m k).set k ⟨xn, a.lo + a.hi - xq, xo, false⟩ = mirK (a.lo + a.hi) a.m (k + 1)) := Lib.hid hSu
            have hw1 : IntKind.i64.wrap (a.lo + a.hi) = a.lo + a.hi := by rw [IntKind.wrap_i64]; omega
            have hw2 : IntKind.i64.wrap (a.lo + a.hi - xq) = a.lo + a.hi - xq := by rw [IntKind.wrap_i64]; omega
            clear hSu
            go_upto_region 6 with fail
            (refine wp_region_calm [g] [0, 1, 2, 3, 4, 5, 6, 7, 8, 9, 10, 11, 12, 13, 14] 5 (by kernel_rfl) rfl (by kernel_rfl) (by kernel_rfl) (by kernel_rfl) ?_; simp only [pickB, List.filterMap_cons, List.filterMap_nil, List.getElem?_toArray, List.getElem?_cons_zero, List.getElem?_cons_succ]; (repeat (first | ((first | (with_reducible refine quietL_plain rfl (fun K hK => ?_)) | (with_reducible refine quietL_want (by with_unfolding_all rfl) (fun K hK => ?_))); (apply Exists.intro; refine ⟨fun wx hx => ?_, ?_⟩; (· (have hcx := ifs_ex hx); simp [go_sem, *, ↓IntWalk.iteOmega] <;> (first | rfl | exact ⟨rfl, rfl⟩ | fail)); (simp only [Act.put, List.setIfInBounds_toArray, List.set_cons_zero, List.set_cons_succ]; refine hK _ ?_; clear hK K))) | ((with_reducible refine quietL_skip (by with_unfolding_all rfl) ?_); simp only [Act.put, List.setIfInBounds_toArray, List.set_cons_zero, List.set_cons_succ]))); refine quietL_nil ?_)
            refine anyB_one (i := 15) (by kernel_rfl) rfl rfl ?_
            intro w6 hb6 K hK
            obtain ⟨_, z1, _, _⟩ := (HS.out.kept hb6).cells HAt.out
            dsimp only at z1
            have hs6 := hb6.size
            have lG6 : g < w6.heap.size := by omega
            go_wp2
            refine ⟨Ex.of_below hb6, ?_⟩
            (refine anyB_one (i := 16) (by kernel_rfl) rfl rfl ?_; intro w7 hb7 K hK; have hs7 := hb7.size; (try simp at hs7); go_wp2; refine ⟨xs_, ?_⟩)
            (refine anyB_one (i := 17) (by kernel_rfl) rfl rfl ?_; intro w8 hb8 K hK; have hs8 := hb8.size; (try simp at hs8); go_wp2; refine ⟨xs_, ?_⟩)
            (refine anyB_one (i := 18) (by kernel_rfl) rfl rfl ?_; intro w9 hb9 K hK; have hs9 := hb9.size; (try simp at hs9); go_wp2; refine ⟨xs_, ?_⟩)
            refine anyB_one (i := 19) (by kernel_rfl) rfl rfl ?_
            intro w10 hb10 K hK
            have hb510 : Below wr.heap.size wr w10 := bl_
            have hS10 := HS.out.kept hb510
            obtain ⟨_, y8, _, _⟩ := hS10.cells HAt.out
            dsimp only at y8
            have fG8 := hS10.row.frozen
            have lG8 := hS10.row.lt
            go_wp2
            refine ⟨Ex.set_in (by simp) (Ex.of_below hb510) _, ?_⟩
            refine anyB_end (by kernel_rfl) ?_
            intro w11 hb11
            simp only [Calm]
            have hS11 := (hS10.put (x' := ⟨xn, a.lo + a.hi - xq, xo, false⟩) (j := 1) (u := .int .i64 (a.lo + a.hi - xq)) HAt.out (by decide) rfl).kept hb11
            rw [HSu.out] at hS11
            have HS9 := Lib.hid hS11
            clear hS10 hS11 fG8 lG8 y8 z1 lG6 y0 y1 y2 y3 lG cA lA cB lB hb510 hb6 hb7 hb10 hb11 HS HSu HAt
            go_wp2_with fail
            go_roundw
            case rel => exact ⟨k + 1, by omega, by go_num, HS9⟩
            case measure => simp [intOf]; omega
        · obtain rfl : k = n := by omega
          go_wp2_with fail
          go_meet
          case rel =>
            rw [← hl, mirK_all] at HS
            rw [← hl]
            exact HS
  rename World => w30
  have HS := hcut
  clear hcut HSM
  have hg1 := HS.out.g1
  have cB := HS.out.out.cell
  have lB := HS.out.out.lt
  have cR := HS.out.res.cell
  have fR := HS.out.res.frozen
  have lR := HS.out.res.lt
  have k2 := put5_blk (v0 := .slice (some ⟨g, 0, none⟩) n cap) (v1 := .int .i64 a.lo) (v2 := .int .i64 a.hi) (v3 := .int .i64 a.cur) (v4 := .int .i64 a.lim) HS.out.res
  have k4 := put5_low (b := w.heap.size + 1) (v0 := .slice (some ⟨g, 0, none⟩) n cap) (v1 := .int .i64 a.lo) (v2 := .int .i64 a.hi) (v3 := .int .i64 a.cur) (v4 := .int .i64 a.lim) HS.out.low (by omega)
  have k3 := put5_far (b := w.heap.size + 1) (v0 := .slice (some ⟨g, 0, none⟩) n cap) (v1 := .int .i64 a.lo) (v2 := .int .i64 a.hi) (v3 := .int .i64 a.cur) (v4 := .int .i64 a.lim) HS.out.row (by omega)
  have K4 := Lib.hid k4
  have K2 := Lib.hid k2
  have K3 := Lib.hid k3
  clear k2 k4 k3
  go_wp2_with fail
  refine bodyPost_ret (res_armR Tryz.results19 rfl K2.out) rfl ⟨some ⟨g, 0, none⟩, cap, rfl, ?_, hcapn, K4.out⟩
  have := mdr_at K3.out
  rwa [List.length_map, hl] at this
end Go.Proofs.YtjanojmgnpfjeaaGreatDoor
