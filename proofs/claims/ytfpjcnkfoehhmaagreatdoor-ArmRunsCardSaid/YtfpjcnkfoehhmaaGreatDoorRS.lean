/- Reference of the arm: Step. -/
import Derived.Test.YtfpjcnkfoehhmaaGreatDoorRR
import Derived.Test.YtfpjcnkfoehhmaaGreatDoorEC
namespace Go.Proofs.YtfpjcnkfoehhmaaGreatDoor
open Go.RowKit Go.Sort Go.Shelf
set_option linter.unusedSimpArgs false
set_option linter.unusedVariables false
attribute [local go_sem] cell_if frozen_if grow_cell
theorem Ex.lowr {X : List Nat} {a b : World} {B : Nat} (h : Ex X a b) (hB : B ≤ a.heap.size) (hX : ∀ x ∈ X, B ≤ x) : Below B a b :=
  ⟨h.os, h.tape, h.output, h.size, fun k hk => h.block k (by omega) (fun hx => by have := hX k hx; omega)⟩
def RStRes (w : World) (a : Ar) (o : Od) (er : Int) (e : Ending) (w' : World) : Prop := Below w.heap.size w w' ∧ ((er = 0 ∧ ∃ g cap, e = .returned (.tuple #[.agg #[.slice (some ⟨g, 0, none⟩) a.m.length cap, .int .i64 a.lo, .int .i64 a.hi, .int .i64 a.cur, .int .i64 a.lim], .int .i64 0]) ∧ MsAt w' w'.heap.size (some ⟨g, 0, none⟩) a.m.length (stepA a o).m ∧ w.heap.size ≤ g ∧ ∃ rest, Blk w' g 74 (mds (stepA a o).m ++ rest).toArray) ∨ (er ≠ 0 ∧ e = .returned (.tuple #[.agg #[.slice none 0 0, .int .i64 0, .int .i64 0, .int .i64 0, .int .i64 0], .int .i64 er])))
/-- Between two modules. -/
structure StR (w : World) (zz : Nat) (A : Option Addr) (n c : Nat) (a : Ar) (o : Od) (b8 g cap : Nat) (rest : List Value) (A2 : Option Addr) (set : List Int) (L : List Md) (W : World) : Prop where
  arm : Blk W w.heap.size 26 #[.slice A n c, .int .i64 a.lo, .int .i64 a.hi, .int .i64 a.cur, .int .i64 a.lim]
  ord : Blk W (w.heap.size + 1) 68 #[.int .i64 o.n, .int .i64 o.c]
  res : Blk W (w.heap.size + 1 + 1) 26 #[.slice none 0 0, .int .i64 0, .int .i64 0, .int .i64 0, .int .i64 0]
  out : Blk W b8 26 #[.slice (some ⟨g, 0, none⟩) n cap, .int .i64 a.lo, .int .i64 a.hi, .int .i64 a.cur, .int .i64 a.lim]
  row : Blk W g 74 (mds L ++ rest).toArray
  set : Reads W zz 1 A2 set.length (set.map (.int .i64))
  low : Below w.heap.size w W
  le : zz ≤ W.heap.size
  g0 : w.heap.size + 1 + 1 + 1 ≤ zz
  g1 : zz ≤ g
  g2 : b8 ≠ g
  g3 : w.heap.size + 1 + 1 + 1 ≤ b8
section
variable {w W W' : World} {zz : Nat} {A : Option Addr} {n c : Nat} {a : Ar} {o : Od} {b8 g cap : Nat} {rest : List Value} {A2 : Option Addr} {set : List Int} {L : List Md}
theorem StR.kept (h : StR w zz A n c a o b8 g cap rest A2 set L W) (hb : Below W.heap.size W W') : StR w zz A n c a o b8 g cap rest A2 set L W' :=
  ⟨h.arm.kept hb, h.ord.kept hb, h.res.kept hb, h.out.kept hb, h.row.kept hb, h.set.below (hb.mono h.le), h.low.trans (hb.mono h.low.size), Nat.le_trans h.le hb.size, h.g0, h.g1, h.g2, h.g3⟩
theorem StR.put (h : StR w zz A n c a o b8 g cap rest A2 set L W) {k j : Nat} {x x' : Md} {u : Value} (hx : L[k]? = some x) (hj : j < 4) (hc : x'.cells = x.cells.set j u) : StR w zz A n c a o b8 g cap rest A2 set (L.set k x') (W.setCell ⟨g, k * 4 + j, none⟩ u) := by
  have g0 := h.g0
  have g1 := h.g1
  have g2 := h.g2
  have e5 : ∀ (V : World) (p : Addr) (u : Value), (V.setCell p u).heap.size = V.heap.size := fun V p u => by simp [World.setCell]
  have hr := h.row.set_ (k * 4 + j) u
  rw [mdr_set hx hj hc] at hr
  exact ⟨h.arm.far (p := ⟨g, k * 4 + j, none⟩) (show w.heap.size ≠ g by omega) u, h.ord.far (p := ⟨g, k * 4 + j, none⟩) (show w.heap.size + 1 ≠ g by omega) u, h.res.far (p := ⟨g, k * 4 + j, none⟩) (show w.heap.size + 1 + 1 ≠ g by omega) u, h.out.far (p := ⟨g, k * 4 + j, none⟩) g2 u, hr, h.set.below ((Below.refl zz W).setCell (p := ⟨g, k * 4 + j, none⟩) g1 u), h.low.setCell (p := ⟨g, k * 4 + j, none⟩) (show w.heap.size ≤ g by omega) u, by rw [e5]; exact h.le, g0, g1, g2, h.g3⟩
theorem StR.cells (h : StR w zz A n c a o b8 g cap rest A2 set L W) {k : Nat} {x : Md} (hx : L[k]? = some x) : W.cell? ⟨g, k * 4, none⟩ = some (.string x.n) ∧ W.cell? ⟨g, k * 4 + 1, none⟩ = some (.int .i64 x.q) ∧ W.cell? ⟨g, k * 4 + 2, none⟩ = some (.bool x.on) ∧ W.cell? ⟨g, k * 4 + 3, none⟩ = some (.bool x.by_) := mdr_cells h.row hx
end
set_option maxRecDepth 100000 in
set_option maxHeartbeats 8000000 in
theorem rStep_any (B : Nat) (A : Option Addr) (n c : Nat) (a : Ar) (o : Od) (w : World) (hM : MsAt w B A n a.m) (hB : B ≤ w.heap.size) (hn : n ≤ 17) (hE : armE a = 0) (ho : orderE o = 0) :
    Calls Tryz.prog 51 #[.agg #[.slice A n c, .int .i64 a.lo, .int .i64 a.hi, .int .i64 a.cur, .int .i64 a.lim], .agg #[.int .i64 o.n, .int .i64 o.c]] w (RStRes w a o (stepE a o)) := by
  have hl := (md_at hM).1
  have HMs := Lib.hid hM
  have HCo := Lib.hid (fun W (hW : Below w.heap.size w W) => rChoose_any B A n c a o W (hM.below (hW.mono hB)) (by have := hW.size; omega) hn hE ho)
  obtain ⟨E2, hE2⟩ : ∃ E2, refE a o = E2 := ⟨_, rfl⟩
  have HRl : Hid (E2 = 0 → rchL a o = choiceA a o) := Lib.hid (fun h => by unfold rchL; rw [if_pos (hE2.trans h)])
  rw [hE2] at HCo
  have HE2 := Lib.hid hE2
  have HEo := Lib.hid ho
  have HEa := Lib.hid hE
  have hq := (fit_of hE).q
  have HQ := Lib.hid hq
  have hoc := (order_zero ho).2
  clear hM hE ho hE2 hq
  go_enter Tryz.func51, Tryz.ntmps51
  go_wp2_with fail
  refine (HCo.out _ bl_).mono ?_
  rintro e w1 ⟨v2, rfl, hr2, _, hb1⟩
  have hs1 := hb1.size
  simp at hs1
  have bA : Blk w1 w.heap.size 26 #[.slice A n c, .int .i64 a.lo, .int .i64 a.hi, .int .i64 a.cur, .int .i64 a.lim] := bk_
  have bO : Blk w1 (w.heap.size + 1) 68 #[.int .i64 o.n, .int .i64 o.c] := bk_
  have bR : Blk w1 (w.heap.size + 1 + 1) 26 #[.slice none 0 0, .int .i64 0, .int .i64 0, .int .i64 0, .int .i64 0] := bk_
  have hlow : Below w.heap.size w w1 := bl_
  obtain ⟨A2, c2, rfl, _, _, hrd⟩ := own_form hr2
  have HL1 := Lib.hid hlow
  have HRd1 := Lib.hid hrd
  have cA := bA.cell
  have lA := bA.lt
  have cO := bO.cell
  have lO := bO.lt
  have cR := bR.cell
  have lR := bR.lt
  have fR := bR.frozen
  clear hb1 hlow HCo hr2 hrd
  by_cases h2 : E2 = 0
  · subst h2
    have hrl := HRl.out rfl
    rw [hrl] at HRd1 ⊢
    have HOw := Lib.hid (rOwn_any B A n c a w1 (HMs.out.below (HL1.out.mono hB)) (by omega) (by omega))
    clear hrl HRl
    go_wp2_with fail
    refine HOw.out.mono ?_
    rintro e w3 ⟨g, cap, rfl, hg3, hb3⟩
    have hgl := hg3.lt.1
    obtain ⟨rest, hg3⟩ := own_rest hg3
    have hs3 := hb3.size
    rw [hl]
    have HL3 := Lib.hid (HL1.out.trans (hb3.mono (by omega)))
    have HRd3 := Lib.hid (HRd1.out.below hb3)
    have BA3 := Lib.hid (bA.kept hb3)
    have BO3 := Lib.hid (bO.kept hb3)
    have BR3 := Lib.hid (bR.kept hb3)
    have BG3 := Lib.hid hg3
    have hgl3 := hg3.lt
    clear bA bO bR cA lA cO lO cR lR fR hb3 hg3 HOw HRd1
    go_upto_region 5 with fail
    obtain ⟨set, hset⟩ : ∃ set, choiceA a o = set := ⟨_, rfl⟩
    have HSt0 := Lib.hid hset
    have hsl : set.length ≤ 16 := by
      have h1 := choice_len (fit_of HEa.out) (order_zero HEo.out).1.1 HE2.out
      have h2 := (order_zero HEo.out).1.2
      rw [hset] at h1
      omega
    have HSM : Hid (StR w w1.heap.size A n c a o w3.heap.size g cap rest A2 set (curL set o.c a.m 0) (w3.alloc (.cells #[.slice (some ⟨g, 0, none⟩) n cap, .int .i64 a.lo, .int .i64 a.hi, .int .i64 a.cur, .int .i64 a.lim] 26))) := by
      have hal : Below w3.heap.size w3 (w3.alloc (.cells #[.slice (some ⟨g, 0, none⟩) n cap, .int .i64 a.lo, .int .i64 a.hi, .int .i64 a.cur, .int .i64 a.lim] 26)) := bl_
      have hrd3 := HRd3.out
      rw [hset] at hrd3
      rw [curL_zero]
      exact Lib.hid ⟨BA3.out.kept hal, BO3.out.kept hal, BR3.out.kept hal, Blk.new _ _ _, BG3.out.kept hal, hrd3.below (hal.mono hs3), HL3.out.trans (hal.mono (by omega)), by simp; omega, by omega, hgl, by omega, by omega⟩
    have hz := HSM.out.low.size
    rw [hset]
    generalize w3.alloc _ = W0 at *
    generalize w3.heap.size = b8 at *
    generalize w1.heap.size = zz at *
    clear HL1 HL3 HRd3 BA3 BO3 BR3 BG3 hgl3
    go_upto_block 0 with fail
    go_cut [9] (fun s9 wx => Hid (StR w zz A n c a o b8 g cap rest A2 set (stepMs set o.c 0 a.m) wx) ∧ Hid ((stepMs set o.c 0 a.m).any (outB a.lo a.hi) = false))
    case first =>
      go_wp2_with fail
      go_loopw [9] (fun s9 wr => ∃ k : Nat, k ≤ n ∧ s9 = .int .i64 k ∧ Hid (StR w zz A n c a o b8 g cap rest A2 set (curL set o.c a.m k) wr) ∧ Hid (outK set o.c a.lo a.hi a.m k = false)) (fun s9 _ => n - (intOf s9).toNat)
      case atStart => exact ⟨0, by omega, rfl, HSM, Lib.hid rfl⟩
      case round =>
        obtain ⟨k, hk, rfl, HS, HO⟩ := hrel
        have hg0 := HS.out.g0
        have hg1 := HS.out.g1
        have hne8 : b8 ≠ g := HS.out.g2
        have cB := HS.out.out.cell
        have lB := HS.out.out.lt
        by_cases hlt : k < n
        · have hkl : k < a.m.length := by omega
          have hat := curL_at (set := set) (c := o.c) hkl
          have hSu := curL_succ (set := set) (c := o.c) hkl
          have hOu := outK_succ (set := set) (c := o.c) (lo := a.lo) (hi := a.hi) hkl
          rw [HO.out, Bool.false_or] at hOu
          have hqk := HQ.out _ (List.getElem_mem hkl)
          obtain ⟨x, hx⟩ : ∃ x, a.m[k] = x := ⟨_, rfl⟩
          rw [hx] at hat hSu hOu hqk
          obtain ⟨xn, xq, xo, xb⟩ := x
          dsimp only at hqk
          have HHi := Lib.hid (fun W' (hW : Ex [g] wr W') => HasInt_any zz A2 set.length c2 set (k : Int) W' (HS.out.set.below (hW.lowr HS.out.le (fun x hx => by simp at hx; omega))) (by unfold maxLen; omega))
          unfold stepM at hSu hOu
          dsimp only at hSu hOu
          obtain ⟨b, hb⟩ : ∃ b, hasI set (k : Int) = b := ⟨_, rfl⟩
          rw [hb] at HHi hSu hOu
          clear hb hx
          have HAt := Lib.hid hat
          have hwr : IntKind.i64.wrap (xq + o.c) = xq + o.c := by rw [IntKind.wrap_i64]; omega
          have HSu : Hid (((curL set o.c a.m k).set k ⟨xn, xq, b, xb⟩).set k ⟨xn, if b = true then xq + o.c else xq, b, xb⟩ = curL set o.c a.m (k + 1)) := Lib.hid (by rw [List.set_set]; exact hSu)
          have HGt : Hid (((curL set o.c a.m k).set k ⟨xn, xq, b, xb⟩)[k]? = some ⟨xn, xq, b, xb⟩) := Lib.hid (List.getElem?_set_self (by rw [curL_len]; omega))
          have HOu := Lib.hid hOu
          clear hat hSu hOu
          go_upto_region 8 with fail
          (refine wp_region_calm [g] [0, 1, 2, 3, 4, 5, 6, 7] 1 (by kernel_rfl) rfl (by kernel_rfl) (by kernel_rfl) (by kernel_rfl) ?_; simp only [pickB, List.filterMap_cons, List.filterMap_nil, List.getElem?_toArray, List.getElem?_cons_zero, List.getElem?_cons_succ]; (repeat (first | ((first | (with_reducible refine quietL_plain rfl (fun K hK => ?_)) | (with_reducible refine quietL_want (by with_unfolding_all rfl) (fun K hK => ?_))); (apply Exists.intro; refine ⟨fun wx hx => ?_, ?_⟩; (· (have hcx := ifs_ex hx); simp [go_sem, *, ↓IntWalk.iteOmega] <;> (first | rfl | exact ⟨rfl, rfl⟩ | (with_reducible exact calls_B (calls_below (HHi.out _ hx))))); (simp only [Act.put, List.setIfInBounds_toArray, List.set_cons_zero, List.set_cons_succ]; refine hK _ ?_; clear hK K))) | ((with_reducible refine quietL_skip (by with_unfolding_all rfl) ?_); simp only [Act.put, List.setIfInBounds_toArray, List.set_cons_zero, List.set_cons_succ]))); refine quietL_nil ?_)
          refine anyB_one (i := 8) (by kernel_rfl) rfl rfl ?_
          intro w4 hb4 K hK
          have hS4 := HS.out.kept hb4
          have hs4 := hb4.size
          obtain ⟨_, _, y2, _⟩ := hS4.cells HAt.out
          dsimp only at y2
          have fG := hS4.row.frozen
          have lG := hS4.row.lt
          go_wp2
          refine ⟨Ex.set_in (by simp) (Ex.of_below hb4) _, ?_⟩
          refine anyB_end (by kernel_rfl) ?_
          intro w5 hb5
          simp only [Calm]
          have hS5 := (hS4.put (x' := ⟨xn, xq, b, xb⟩) (j := 2) (u := .bool b) HAt.out (by decide) rfl).kept hb5
          have HS5 := Lib.hid hS5
          obtain ⟨z0, z1, z2, z3⟩ := hS5.cells HGt.out
          dsimp only at z0 z1 z2 z3
          have lG5 := hS5.row.lt
          have cB5 := hS5.out.cell
          have lB5 := hS5.out.lt
          clear hS4 hS5 hb4 hb5 y2 fG lG cB lB HHi HS
          cases b with
          | false =>
            rw [if_neg (by decide)] at HSu HOu
            go_wp2_with fail
            go_roundw
            case rel =>
              have hh := HS5
              have e : ((curL set o.c a.m k).set k ⟨xn, xq, false, xb⟩) = curL set o.c a.m (k + 1) := by rw [← HSu.out, List.set_set]
              rw [e] at hh
              exact ⟨k + 1, by omega, by go_num, hh, Lib.hid (HOu.out.trans rfl)⟩
            case measure => simp [intOf]; omega
          | true =>
            rw [if_pos rfl] at HSu HOu
            have cO1 := HS5.out.ord.cell
            have lO1 := HS5.out.ord.lt
            have hne1 : w.heap.size + 1 ≠ g := by omega
            go_upto_region 10 with fail
            (refine wp_region_calm [g] [0, 1, 2, 3, 4, 5, 6, 7, 9, 10] 5 (by kernel_rfl) rfl (by kernel_rfl) (by kernel_rfl) (by kernel_rfl) ?_; simp only [pickB, List.filterMap_cons, List.filterMap_nil, List.getElem?_toArray, List.getElem?_cons_zero, List.getElem?_cons_succ]; (repeat (first | ((first | (with_reducible refine quietL_plain rfl (fun K hK => ?_)) | (with_reducible refine quietL_want (by with_unfolding_all rfl) (fun K hK => ?_))); (apply Exists.intro; refine ⟨fun wx hx => ?_, ?_⟩; (· (have hcx := ifs_ex hx); simp [go_sem, *, ↓IntWalk.iteOmega] <;> (first | rfl | exact ⟨rfl, rfl⟩ | fail)); (simp only [Act.put, List.setIfInBounds_toArray, List.set_cons_zero, List.set_cons_succ]; refine hK _ ?_; clear hK K))) | ((with_reducible refine quietL_skip (by with_unfolding_all rfl) ?_); simp only [Act.put, List.setIfInBounds_toArray, List.set_cons_zero, List.set_cons_succ]))); refine quietL_nil ?_)
            refine anyB_one (i := 8) (by kernel_rfl) rfl rfl ?_
            intro w6 hb6 K hK
            obtain ⟨_, y1, _, _⟩ := (HS5.out.kept hb6).cells HGt.out
            dsimp only at y1
            have hs6 := hb6.size
            have lG6 : g < w6.heap.size := by omega
            go_wp2
            refine ⟨Ex.of_below hb6, ?_⟩
            (refine anyB_one (i := 11) (by kernel_rfl) rfl rfl ?_; intro w7 hb7 K hK; have hs7 := hb7.size; (try simp at hs7); go_wp2; refine ⟨xs_, ?_⟩)
            (refine anyB_one (i := 12) (by kernel_rfl) rfl rfl ?_; intro w8 hb8 K hK; have hs8 := hb8.size; (try simp at hs8); go_wp2; refine ⟨xs_, ?_⟩)
            (refine anyB_one (i := 13) (by kernel_rfl) rfl rfl ?_; intro w9 hb9 K hK; have hs9 := hb9.size; (try simp at hs9); go_wp2; refine ⟨xs_, ?_⟩)
            refine anyB_one (i := 14) (by kernel_rfl) rfl rfl ?_
            intro w10 hb10 K hK
            have hb510 : Below w5.heap.size w5 w10 := bl_
            have hS10 := HS5.out.kept hb510
            obtain ⟨_, y8, _, _⟩ := hS10.cells HGt.out
            dsimp only at y8
            have fG8 := hS10.row.frozen
            have lG8 := hS10.row.lt
            go_wp2
            refine ⟨Ex.set_in (by simp) (Ex.of_below hb510) _, ?_⟩
            refine anyB_end (by kernel_rfl) ?_
            intro w11 hb11
            simp only [Calm]
            have hS11 := (hS10.put (x' := ⟨xn, xq + o.c, true, xb⟩) (j := 1) (u := .int .i64 (xq + o.c)) HGt.out (by decide) rfl).kept hb11
            rw [HSu.out] at hS11
            have HS9 := Lib.hid hS11
            have hgt9 : (curL set o.c a.m (k + 1))[k]? = some ⟨xn, xq + o.c, true, xb⟩ := by
              rw [← HSu.out]
              exact List.getElem?_set_self (by rw [List.length_set, curL_len]; omega)
            obtain ⟨v0, v1, v2, v3⟩ := hS11.cells hgt9
            dsimp only at v0 v1 v2 v3
            have lG9 := hS11.row.lt
            have cA9 := hS11.arm.cell
            have lA9 := hS11.arm.lt
            have cB9 := hS11.out.cell
            have lB9 := hS11.out.lt
            clear hS10 hS11 fG8 lG8 y8 y1 lG6 z0 z1 z2 z3 lG5 cB5 lB5 cO1 lO1 hb510 hb6 hb7 hb8 hb9 hb10 hb11 HS5 HSu hgt9 HGt
            have HHo := Lib.hid (fun W => rinBand_any A n c a (xq + o.c) W)
            have hob : outB a.lo a.hi ⟨xn, xq + o.c, true, xb⟩ = !(inB a.lo a.hi (xq + o.c)) := rfl
            have HOu2 := Lib.hid (HOu.out.trans hob)
            clear hob HOu
            obtain ⟨ib, hib⟩ : ∃ ib, inB a.lo a.hi (xq + o.c) = ib := ⟨_, rfl⟩
            rw [hib] at HHo HOu2
            clear hib
            go_upto_region 11 with fail
            cases ib with
            | true =>
              (refine wp_region_calm [] [0, 1, 2, 3, 4, 5, 6, 7, 8] 0 (by kernel_rfl) rfl (by kernel_rfl) (by kernel_rfl) (by kernel_rfl) ?_; simp only [pickB, List.filterMap_cons, List.filterMap_nil, List.getElem?_toArray, List.getElem?_cons_zero, List.getElem?_cons_succ]; (repeat (first | ((first | (with_reducible refine quietL_plain rfl (fun K hK => ?_)) | (with_reducible refine quietL_want (by with_unfolding_all rfl) (fun K hK => ?_))); (apply Exists.intro; refine ⟨fun wx hx => ?_, ?_⟩; (· (have hcx := ifs_ex hx); simp [go_sem, *, ↓IntWalk.iteOmega] <;> (first | rfl | exact ⟨rfl, rfl⟩ | (with_reducible exact calls_B (HHo.out _)))); (simp only [Act.put, List.setIfInBounds_toArray, List.set_cons_zero, List.set_cons_succ]; refine hK _ ?_; clear hK K))) | ((with_reducible refine quietL_skip (by with_unfolding_all rfl) ?_); simp only [Act.put, List.setIfInBounds_toArray, List.set_cons_zero, List.set_cons_succ]))); refine quietL_nil ?_)
              (refine anyB_end (by kernel_rfl) ?_; intro w12 hb12; have hs12 := hb12.size; (try simp at hs12); simp only [Calm])
              have HS10 := Lib.hid (HS9.out.kept hb12)
              go_wp2_with fail
              go_roundw
              case rel => exact ⟨k + 1, by omega, by go_num, HS10, Lib.hid (HOu2.out.trans rfl)⟩
              case measure => simp [intOf]; omega
            | false =>
              have hst : stepE a o = 30 := by unfold stepE; rw [HE2.out, HSt0.out, outK_mono HOu2.out]; rfl
              have HSt := Lib.hid hst
              clear hst
              (refine wp_region_calm [] [0, 1, 2, 3, 4, 5, 6, 7, 8] 0 (by kernel_rfl) rfl (by kernel_rfl) (by kernel_rfl) (by kernel_rfl) ?_; simp only [pickB, List.filterMap_cons, List.filterMap_nil, List.getElem?_toArray, List.getElem?_cons_zero, List.getElem?_cons_succ]; (repeat (first | ((first | (with_reducible refine quietL_plain rfl (fun K hK => ?_)) | (with_reducible refine quietL_want (by with_unfolding_all rfl) (fun K hK => ?_))); (apply Exists.intro; refine ⟨fun wx hx => ?_, ?_⟩; (· (have hcx := ifs_ex hx); simp [go_sem, *, ↓IntWalk.iteOmega] <;> (first | rfl | exact ⟨rfl, rfl⟩ | (with_reducible exact calls_B (HHo.out _)))); (simp only [Act.put, List.setIfInBounds_toArray, List.set_cons_zero, List.set_cons_succ]; refine hK _ ?_; clear hK K))) | ((with_reducible refine quietL_skip (by with_unfolding_all rfl) ?_); simp only [Act.put, List.setIfInBounds_toArray, List.set_cons_zero, List.set_cons_succ]))); refine quietL_nil ?_)
              (refine anyB_end (by kernel_rfl) ?_; intro w12 hb12; have hs12 := hb12.size; (try simp at hs12); simp only [Calm])
              have HS9a := HS9
              clear HS9
              have HS9 := Lib.hid (HS9a.out.kept hb12)
              clear HS9a
              have k2 := put5_blk (v0 := .slice none 0 0) (v1 := .int .i64 0) (v2 := .int .i64 0) (v3 := .int .i64 0) (v4 := .int .i64 0) HS9.out.res
              have k4 := put5_low (b := w.heap.size + 1 + 1) (v0 := .slice none 0 0) (v1 := .int .i64 0) (v2 := .int .i64 0) (v3 := .int .i64 0) (v4 := .int .i64 0) HS9.out.low (by omega)
              have K4 := Lib.hid k4
              have K2 := Lib.hid k2
              have cR := HS9.out.res.cell
              have fR := HS9.out.res.frozen
              have lR := HS9.out.res.lt
              clear k2 k4
              go_wp2_with fail
              have ck := K2.out.cell
              refine bodyPost_ret (v := .tuple #[.agg #[.slice none 0 0, .int .i64 0, .int .i64 0, .int .i64 0, .int .i64 0], .int .i64 30]) (by simp [results, Tryz.results51, go_sem, ck]) rfl ⟨K4.out, .inr ⟨by rw [HSt.out]; decide, by rw [HSt.out]⟩⟩
        · obtain rfl : k = n := by omega
          go_wp2_with fail
          go_meet
          case rel =>
            rw [← hl, curL_all] at HS
            rw [← hl, outK_all] at HO
            rw [← hl]
            exact ⟨HS, HO⟩
    rename World => w30
    obtain ⟨HS, HO⟩ := hcut
    have hst : stepE a o = 0 := by unfold stepE; rw [HE2.out, HSt0.out, HO.out]; rfl
    have HSt := Lib.hid hst
    have hg0 := HS.out.g0
    have hg1 := HS.out.g1
    have cB := HS.out.out.cell
    have lB := HS.out.out.lt
    have cR := HS.out.res.cell
    have fR := HS.out.res.frozen
    have lR := HS.out.res.lt
    have k2 := put5_blk (v0 := .slice (some ⟨g, 0, none⟩) n cap) (v1 := .int .i64 a.lo) (v2 := .int .i64 a.hi) (v3 := .int .i64 a.cur) (v4 := .int .i64 a.lim) HS.out.res
    have k4 := put5_low (b := w.heap.size + 1 + 1) (v0 := .slice (some ⟨g, 0, none⟩) n cap) (v1 := .int .i64 a.lo) (v2 := .int .i64 a.hi) (v3 := .int .i64 a.cur) (v4 := .int .i64 a.lim) HS.out.low (by omega)
    have k3 := put5_far (b := w.heap.size + 1 + 1) (v0 := .slice (some ⟨g, 0, none⟩) n cap) (v1 := .int .i64 a.lo) (v2 := .int .i64 a.hi) (v3 := .int .i64 a.cur) (v4 := .int .i64 a.lim) HS.out.row (by omega)
    have K4 := Lib.hid k4
    have K2 := Lib.hid k2
    have K3 := Lib.hid k3
    have hml : (stepMs set o.c 0 a.m).length = n := (stepMs_len _ _ _ _).trans hl
    clear k2 k4 k3 hst
    go_wp2_with fail
    have ck := K2.out.cell
    refine bodyPost_ret (v := .tuple #[.agg #[.slice (some ⟨g, 0, none⟩) n cap, .int .i64 a.lo, .int .i64 a.hi, .int .i64 a.cur, .int .i64 a.lim], .int .i64 0]) (by simp [results, Tryz.results51, go_sem, ck]) rfl ⟨K4.out, .inl ⟨HSt.out, g, cap, by rw [hl], ?_, by omega, rest, ?_⟩⟩
    · rw [hl]
      show MsAt _ _ _ _ (stepMs (choiceA a o) o.c 0 a.m)
      rw [HSt0.out]
      have := mdr_at K3.out
      rwa [hml] at this
    · show Blk _ _ _ (mds (stepMs (choiceA a o) o.c 0 a.m) ++ rest).toArray
      rw [HSt0.out]
      exact K3.out
  · have hne : (E2 != 0) = true := by simpa using h2
    have hst : stepE a o = E2 := by unfold stepE or0; rw [HE2.out, if_neg h2]
    have HSt := Lib.hid hst
    have k2 := put5_blk (v0 := .slice none 0 0) (v1 := .int .i64 0) (v2 := .int .i64 0) (v3 := .int .i64 0) (v4 := .int .i64 0) bR
    have k4 := put5_low (b := w.heap.size + 1 + 1) (v0 := .slice none 0 0) (v1 := .int .i64 0) (v2 := .int .i64 0) (v3 := .int .i64 0) (v4 := .int .i64 0) HL1.out (by omega)
    have K4 := Lib.hid k4
    have K2 := Lib.hid k2
    clear k2 k4 hst
    go_wp2_with fail
    have ck := K2.out.cell
    refine bodyPost_ret (v := .tuple #[.agg #[.slice none 0 0, .int .i64 0, .int .i64 0, .int .i64 0, .int .i64 0], .int .i64 E2]) (by simp [results, Tryz.results51, go_sem, ck]) rfl ⟨K4.out, .inr ⟨by rw [HSt.out]; exact h2, by rw [HSt.out]⟩⟩
end Go.Proofs.YtfpjcnkfoehhmaaGreatDoor
