/- Joined texts: BY BZ. -/
import Derived.Test.YtafnebfchhmgcaaGreatQe
import Derived.Test.YtafnebfchhmgcaaGreatQk
import Derived.Test.YtafnebfchhmgcaaGreatQd
/- A step of an arm: the program's step. -/
namespace Go.Proofs.YtafnebfchhmgcaaGreat
open Go.RowKit Go.Sort Go.Shelf
set_option linter.unusedSimpArgs false
set_option linter.unusedVariables false
attribute [local go_sem] cell_if frozen_if grow_cell
theorem flat_set {α : Type} {f : α → List Value} {m : Nat} (hf : ∀ x, (f x).length = m) {x x' : α} {j : Nat} {u : Value} (hj : j < m) (hx : f x' = (f x).set j u) : ∀ (l : List α) (k : Nat), l[k]? = some x → (l.flatMap f).set (k * m + j) u = (l.set k x').flatMap f
  | [], k, h => by simp at h
  | z :: r, 0, h => by
    have e : z = x := by simpa using h
    subst e
    rw [List.flatMap_cons, Nat.zero_mul, Nat.zero_add, List.set_append_left _ _ (by rw [hf]; exact hj), List.set_cons_zero, List.flatMap_cons, hx]
  | z :: r, k + 1, h => by
    have ih := flat_set hf hj hx r k (by simpa using h)
    rw [List.flatMap_cons, List.set_append_right _ _ (by rw [hf, Nat.succ_mul]; omega), hf, show (k + 1) * m + j - m = k * m + j by rw [Nat.succ_mul]; omega, ih, List.set_cons_succ, List.flatMap_cons]
theorem mds_get {l : List Md} {k : Nat} {x : Md} (h : l[k]? = some x) (j : Nat) (hj : j < 4) : (mds l).toArray[k * 4 + j]? = x.cells[j]? := by
  have := flat_get (f := Md.cells) (m := 4) (fun _ => rfl) l k j hj
  rw [h] at this
  simpa [mds] using this
theorem mds_set {l : List Md} {k : Nat} {x x' : Md} {j : Nat} {u : Value} (h : l[k]? = some x) (hj : j < 4) (hx : x'.cells = x.cells.set j u) : (mds l).toArray.setIfInBounds (k * 4 + j) u = (mds (l.set k x')).toArray := by
  rw [List.setIfInBounds_toArray]
  congr 1
  exact flat_set (f := Md.cells) (m := 4) (fun _ => rfl) hj hx l k h
/-- The modules when k of them are done. -/
def curL (set : List Int) (c : Int) (l : List Md) (k : Nat) : List Md := (stepMs set c 0 l).take k ++ l.drop k
def stepM (set : List Int) (c : Int) (k : Nat) (x : Md) : Md := ⟨x.n, if hasI set (k : Int) then x.q + c else x.q, hasI set (k : Int), x.by_⟩
theorem curL_at {set : List Int} {c : Int} {l : List Md} {k : Nat} (hk : k < l.length) : (curL set c l k)[k]? = some l[k] := by
  unfold curL
  have : ((stepMs set c 0 l).take k).length = k := by rw [List.length_take, stepMs_len]; omega
  rw [List.getElem?_append_right (by omega), this, Nat.sub_self, List.getElem?_drop, Nat.add_zero, List.getElem?_eq_getElem hk]
theorem step_get {set : List Int} {c : Int} {l : List Md} {k : Nat} (hk : k < l.length) : (stepMs set c 0 l)[k]? = some (stepM set c k l[k]) := by
  rw [stepMs_get, List.getElem?_eq_getElem hk, Nat.zero_add]
  rfl
theorem curL_succ {set : List Int} {c : Int} {l : List Md} {k : Nat} (hk : k < l.length) : (curL set c l k).set k (stepM set c k l[k]) = curL set c l (k + 1) := by
  unfold curL
  have e1 : ((stepMs set c 0 l).take k).length = k := by rw [List.length_take, stepMs_len]; omega
  have hk' : k < (stepMs set c 0 l).length := by rw [stepMs_len]; exact hk
  have e2 : (stepMs set c 0 l)[k] = stepM set c k l[k] := by
    have := step_get (set := set) (c := c) hk
    rw [List.getElem?_eq_getElem hk'] at this
    exact Option.some.inj this
  rw [List.set_append_right _ _ (by omega), e1, Nat.sub_self, List.drop_eq_getElem_cons hk, List.set_cons_zero, List.take_succ_eq_append_getElem hk', e2]
  simp
theorem curL_zero (set : List Int) (c : Int) (l : List Md) : curL set c l 0 = l := by simp [curL]
theorem curL_all (set : List Int) (c : Int) (l : List Md) : curL set c l l.length = stepMs set c 0 l := by
  unfold curL
  rw [List.drop_length, List.append_nil, List.take_of_length_le (by rw [stepMs_len]; exact Nat.le_refl _)]
theorem curL_len (set : List Int) (c : Int) (l : List Md) (k : Nat) : (curL set c l k).length = l.length := by
  unfold curL
  rw [List.length_append, List.length_take, List.length_drop, stepMs_len]
  omega
/-- The band, as far as the modules have come. -/
def outK (set : List Int) (c lo hi : Int) (l : List Md) (k : Nat) : Bool := ((stepMs set c 0 l).take k).any (outB lo hi)
theorem outK_succ {set : List Int} {c lo hi : Int} {l : List Md} {k : Nat} (hk : k < l.length) : outK set c lo hi l (k + 1) = (outK set c lo hi l k || outB lo hi (stepM set c k l[k])) := by
  unfold outK
  have hk' : k < (stepMs set c 0 l).length := by rw [stepMs_len]; exact hk
  have e2 : (stepMs set c 0 l)[k] = stepM set c k l[k] := by
    have := step_get (set := set) (c := c) hk
    rw [List.getElem?_eq_getElem hk'] at this
    exact Option.some.inj this
  rw [List.take_succ_eq_append_getElem hk', e2, List.any_append]
  simp
theorem outK_all {set : List Int} {c lo hi : Int} {l : List Md} : outK set c lo hi l l.length = (stepMs set c 0 l).any (outB lo hi) := by
  unfold outK
  rw [List.take_of_length_le (by rw [stepMs_len]; exact Nat.le_refl _)]
theorem outK_mono {set : List Int} {c lo hi : Int} {l : List Md} {k : Nat} (h : outK set c lo hi l k = true) : (stepMs set c 0 l).any (outB lo hi) = true := by
  unfold outK at h
  rw [List.any_eq_true] at h ⊢
  obtain ⟨x, hx, hy⟩ := h
  exact ⟨x, List.mem_of_mem_take hx, hy⟩
def StepRes (w : World) (a : Ar) (o : Od) (er : Int) (e : Ending) (w' : World) : Prop := Below w.heap.size w w' ∧ ((er = 0 ∧ ∃ g, e = .returned (.tuple #[.agg #[.slice (some ⟨g, 0, none⟩) a.m.length a.m.length, .int .i64 a.lo, .int .i64 a.hi, .int .i64 a.cur, .int .i64 a.lim], .int .i64 0]) ∧ Blk w' g 115 (mds (stepA a o).m).toArray ∧ w.heap.size ≤ g) ∨ (er ≠ 0 ∧ e = .returned (.tuple #[.agg #[.slice none 0 0, .int .i64 0, .int .i64 0, .int .i64 0, .int .i64 0], .int .i64 er])))
/-- Between two modules. -/
structure StM (w : World) (zz : Nat) (A : Option Addr) (n c : Nat) (a : Ar) (o : Od) (b8 g : Nat) (A2 : Option Addr) (set : List Int) (L : List Md) (W : World) : Prop where
  arm : Blk W w.heap.size 36 #[.slice A n c, .int .i64 a.lo, .int .i64 a.hi, .int .i64 a.cur, .int .i64 a.lim]
  ord : Blk W (w.heap.size + 1) 45 #[.int .i64 o.n, .int .i64 o.c]
  res : Blk W (w.heap.size + 1 + 1) 36 #[.slice none 0 0, .int .i64 0, .int .i64 0, .int .i64 0, .int .i64 0]
  out : Blk W b8 36 #[.slice (some ⟨g, 0, none⟩) n n, .int .i64 a.lo, .int .i64 a.hi, .int .i64 a.cur, .int .i64 a.lim]
  row : Blk W g 115 (mds L).toArray
  set : Reads W zz 1 A2 set.length (set.map (.int .i64))
  low : Below w.heap.size w W
  le : zz ≤ W.heap.size
  g0 : w.heap.size + 1 + 1 + 1 ≤ zz
  g1 : zz ≤ g
  g2 : b8 ≠ g
  g3 : w.heap.size + 1 + 1 + 1 ≤ b8
section
variable {w W W' : World} {zz : Nat} {A : Option Addr} {n c : Nat} {a : Ar} {o : Od} {b8 g : Nat} {A2 : Option Addr} {set : List Int} {L : List Md}
theorem StM.kept (h : StM w zz A n c a o b8 g A2 set L W) (hb : Below W.heap.size W W') : StM w zz A n c a o b8 g A2 set L W' :=
  ⟨h.arm.kept hb, h.ord.kept hb, h.res.kept hb, h.out.kept hb, h.row.kept hb, h.set.below (hb.mono h.le), h.low.trans (hb.mono h.low.size), Nat.le_trans h.le hb.size, h.g0, h.g1, h.g2, h.g3⟩
theorem StM.put (h : StM w zz A n c a o b8 g A2 set L W) {k j : Nat} {x x' : Md} {u : Value} (hx : L[k]? = some x) (hj : j < 4) (hc : x'.cells = x.cells.set j u) : StM w zz A n c a o b8 g A2 set (L.set k x') (W.setCell ⟨g, k * 4 + j, none⟩ u) := by
  have g0 := h.g0
  have g1 := h.g1
  have g2 := h.g2
  have e5 : ∀ (V : World) (p : Addr) (u : Value), (V.setCell p u).heap.size = V.heap.size := fun V p u => by simp [World.setCell]
  have hr := h.row.set_ (k * 4 + j) u
  rw [mds_set hx hj hc] at hr
  exact ⟨h.arm.far (p := ⟨g, k * 4 + j, none⟩) (show w.heap.size ≠ g by omega) u, h.ord.far (p := ⟨g, k * 4 + j, none⟩) (show w.heap.size + 1 ≠ g by omega) u, h.res.far (p := ⟨g, k * 4 + j, none⟩) (show w.heap.size + 1 + 1 ≠ g by omega) u, h.out.far (p := ⟨g, k * 4 + j, none⟩) g2 u, hr, h.set.below ((Below.refl zz W).setCell (p := ⟨g, k * 4 + j, none⟩) g1 u), h.low.setCell (p := ⟨g, k * 4 + j, none⟩) (show w.heap.size ≤ g by omega) u, by rw [e5]; exact h.le, g0, g1, g2, h.g3⟩
theorem StM.cells (h : StM w zz A n c a o b8 g A2 set L W) {k : Nat} {x : Md} (hx : L[k]? = some x) : W.cell? ⟨g, k * 4, none⟩ = some (.string x.n) ∧ W.cell? ⟨g, k * 4 + 1, none⟩ = some (.int .i64 x.q) ∧ W.cell? ⟨g, k * 4 + 2, none⟩ = some (.bool x.on) ∧ W.cell? ⟨g, k * 4 + 3, none⟩ = some (.bool x.by_) :=
  ⟨(h.row.cell _).trans (mds_get hx 0 (by decide)), (h.row.cell _).trans (mds_get hx 1 (by decide)), (h.row.cell _).trans (mds_get hx 2 (by decide)), (h.row.cell _).trans (mds_get hx 3 (by decide))⟩
end
set_option maxRecDepth 100000 in
set_option maxHeartbeats 8000000 in
theorem step_any (B : Nat) (A : Option Addr) (n c : Nat) (a : Ar) (o : Od) (w : World) (hM : MsAt w B A n a.m) (hB : B ≤ w.heap.size) (hn : n ≤ 17) (hE : armE a = 0) (ho : orderE o = 0) :
    Calls Tryz.prog 55 #[.agg #[.slice A n c, .int .i64 a.lo, .int .i64 a.hi, .int .i64 a.cur, .int .i64 a.lim], .agg #[.int .i64 o.n, .int .i64 o.c]] w (StepRes w a o (stepE a o)) := by
  have hl := (md_at hM).1
  have HMs := Lib.hid hM
  have HRf := Lib.hid (fun W (hW : Below w.heap.size w W) => refused_any B A n c a o W (hM.below (hW.mono hB)) (by have := hW.size; omega) (by omega) (fit_of hE) ho)
  obtain ⟨E2, hE2⟩ : ∃ E2, refE a o = E2 := ⟨_, rfl⟩
  rw [hE2] at HRf
  have HE2 := Lib.hid hE2
  have HEo := Lib.hid ho
  have HEa := Lib.hid hE
  have hq := (fit_of hE).q
  have HQ := Lib.hid hq
  have hoc := (order_zero ho).2
  clear hM hE ho hE2 hq
  go_enter Tryz.func55, Tryz.ntmps55
  go_wp2_with fail
  refine (HRf.out _ bl_).mono ?_
  rintro e w1 ⟨rfl, hb1⟩
  have hs1 := hb1.size
  simp at hs1
  have bA : Blk w1 w.heap.size 36 #[.slice A n c, .int .i64 a.lo, .int .i64 a.hi, .int .i64 a.cur, .int .i64 a.lim] := bk_
  have bO : Blk w1 (w.heap.size + 1) 45 #[.int .i64 o.n, .int .i64 o.c] := bk_
  have bR : Blk w1 (w.heap.size + 1 + 1) 36 #[.slice none 0 0, .int .i64 0, .int .i64 0, .int .i64 0, .int .i64 0] := bk_
  have hlow : Below w.heap.size w w1 := bl_
  have HL1 := Lib.hid hlow
  have cA := bA.cell
  have lA := bA.lt
  have cO := bO.cell
  have lO := bO.lt
  have cR := bR.cell
  have lR := bR.lt
  have fR := bR.frozen
  clear hb1 hlow HRf
  by_cases h2 : E2 = 0
  · subst h2
    have HCo := Lib.hid (choice_any B A n c a o w1 (HMs.out.below (HL1.out.mono hB)) (by omega) (by omega) HEa.out HEo.out HE2.out)
    go_wp2_with fail
    refine HCo.out.mono ?_
    rintro e w2 ⟨v2, rfl, hr2, hb2⟩
    have hs2 := hb2.size
    obtain ⟨A2, c2, rfl, _, _, _⟩ := own_form hr2
    have HR2 := Lib.hid hr2
    have hrd2 : Reads w2 w2.heap.size 1 A2 (choiceA a o).length ((choiceA a o).map (.int .i64)) := by
      obtain ⟨A2', c2', e2', _, _, hrd⟩ := own_form hr2
      cases e2'
      exact hrd
    have HRd2 := Lib.hid hrd2
    have bA2 := bA.kept hb2
    have bO2 := bO.kept hb2
    have bR2 := bR.kept hb2
    have HL2 := Lib.hid (HL1.out.trans (hb2.mono (by omega)))
    have cA2 := bA2.cell
    have lA2 := bA2.lt
    clear bA bO bR cA lA cO lO cR lR fR hb2 hr2 hrd2 HCo
    have HOw := Lib.hid (aown_any B A n c a w2 (HMs.out.below (HL2.out.mono hB)) (by omega) (by omega))
    go_wp2_with fail
    refine HOw.out.mono ?_
    rintro e w3 ⟨g, rfl, hg3, hgl, hb3⟩
    have hs3 := hb3.size
    have HL3 := Lib.hid (HL2.out.trans (hb3.mono (by omega)))
    have HRd3 := Lib.hid (HRd2.out.below hb3)
    have BA3 := Lib.hid (bA2.kept hb3)
    have BO3 := Lib.hid (bO2.kept hb3)
    have BR3 := Lib.hid (bR2.kept hb3)
    have BG3 := Lib.hid hg3
    have hgl3 := hg3.lt
    clear bA2 bO2 bR2 cA2 lA2 hb3 hg3 HOw HR2 HRd2
    go_upto_region 6 with fail
    obtain ⟨set, hset⟩ : ∃ set, choiceA a o = set := ⟨_, rfl⟩
    have HSt0 := Lib.hid hset
    have hsl : set.length ≤ 16 := by
      have h1 := choice_len (fit_of HEa.out) (order_zero HEo.out).1.1 HE2.out
      have h2 := (order_zero HEo.out).1.2
      rw [hset] at h1
      omega
    have HSM : Hid (StM w w2.heap.size A n c a o w3.heap.size g A2 set (curL set o.c a.m 0) (w3.alloc (.cells #[.slice (some ⟨g, 0, none⟩) n n, .int .i64 a.lo, .int .i64 a.hi, .int .i64 a.cur, .int .i64 a.lim] 36))) := by
      have hal : Below w3.heap.size w3 (w3.alloc (.cells #[.slice (some ⟨g, 0, none⟩) n n, .int .i64 a.lo, .int .i64 a.hi, .int .i64 a.cur, .int .i64 a.lim] 36)) := bl_
      have hrd3 := HRd3.out
      rw [hset] at hrd3
      rw [curL_zero]
      exact Lib.hid ⟨BA3.out.kept hal, BO3.out.kept hal, BR3.out.kept hal, Blk.new _ _ _, BG3.out.kept hal, hrd3.below (hal.mono hs3), HL3.out.trans (hal.mono (by omega)), by simp; omega, by omega, hgl, by omega, by omega⟩
    have hz := HSM.out.low.size
    rw [hset]
    generalize w3.alloc _ = W0 at *
    generalize w3.heap.size = b8 at *
    generalize w2.heap.size = zz at *
    have cB := HSM.out.out.cell
    have lB := HSM.out.out.lt
    go_upto_block 0 with fail
    clear cB lB
    go_cut [9, 10, 26] (fun s9 s10 s26 wx => Hid (StM w zz A n c a o b8 g A2 set (stepMs set o.c 0 a.m) wx) ∧ Hid ((stepMs set o.c 0 a.m).any (outB a.lo a.hi) = false))
    case first =>
      go_wp2_with fail
      go_loopw [9, 10, 26] (fun s9 s10 s26 wr => ∃ k : Nat, k ≤ n ∧ s26 = .int .i64 k ∧ Hid (StM w zz A n c a o b8 g A2 set (curL set o.c a.m k) wr) ∧ Hid (outK set o.c a.lo a.hi a.m k = false)) (fun _ _ s26 _ => n - (intOf s26).toNat)
      case atStart => exact ⟨0, by omega, rfl, HSM, Lib.hid rfl⟩
      case round =>
        obtain ⟨k, hk, rfl, HS, HO⟩ := hrel
        have hg0 := HS.out.g0
        have hg1 := HS.out.g1
        by_cases hlt : k < n
        · have hkl : k < a.m.length := by omega
          have hat := curL_at (set := set) (c := o.c) hkl
          have hSu := curL_succ (set := set) (c := o.c) hkl
          have hOu := outK_succ (set := set) (c := o.c) (lo := a.lo) (hi := a.hi) hkl
          rw [HO.out, Bool.false_or] at hOu
          have hqk := HQ.out _ (List.getElem_mem hkl)
          obtain ⟨x, hx⟩ : ∃ x, a.m[k] = x := ⟨_, rfl⟩
          rw [hx] at hat hSu hOu hqk
          obtain ⟨xn, xq, xo, xb⟩ := x
          dsimp only at hqk
          have HCn := Lib.hid (ContainsI_any zz A2 set.length c2 set (k : Int) wr HS.out.set (by unfold maxLen; omega))
          unfold stepM at hSu hOu
          dsimp only at hSu hOu
          obtain ⟨b, hb⟩ : ∃ b, hasI set (k : Int) = b := ⟨_, rfl⟩
          rw [hb] at HCn hSu hOu
          clear hb hx
          have HAt := Lib.hid hat
          have cB := HS.out.out.cell
          have lB := HS.out.out.lt
          have fG := HS.out.row.frozen
          have lG := HS.out.row.lt
          have hwr : IntKind.i64.wrap (xq + o.c) = xq + o.c := by rw [IntKind.wrap_i64]; omega
          obtain ⟨_, _, y2, _⟩ := HS.out.cells hat
          dsimp only at y2
          clear hat
          cases b with
          | false =>
            rw [if_neg (by decide)] at hSu hOu
            have hS1 := HS.out.put (x' := ⟨xn, xq, false, xb⟩) (j := 2) (u := .bool false) HAt.out (by decide) rfl
            rw [hSu] at hS1
            have HS1 := Lib.hid hS1
            have HOu := Lib.hid hOu
            have hcl := hS1.cells (k := k) (by rw [← hSu, List.getElem?_set_self (by rw [curL_len]; omega)])
            obtain ⟨z0, z1, z2, z3⟩ := hcl
            dsimp only at z0 z1 z2 z3
            have HZ2 := Lib.hid z2
            clear hS1 hSu hOu z0 z1 z2 z3
            go_wp2_with fail
            refine HCn.out.mono ?_
            rintro e w1' ⟨rfl, rfl⟩
            go_upto_region 11 with fail
            refine wp_world ?_
            intro W1 hW1
            rw [← hW1] at HS1 HZ2
            have hG1 := HS1.out.row.lt
            have z2 := HZ2.out
            clear hW1 cB lB fG lG y2 HCn HZ2
            go_upto_region 13 with fail
            (refine wp_region_calm [] [0, 1, 2, 3, 4, 5, 6, 7, 8, 9, 10, 11, 12, 13] 0 (by kernel_rfl) rfl (by kernel_rfl) (by kernel_rfl) (by kernel_rfl) ?_; simp only [pickB, List.filterMap_cons, List.filterMap_nil, List.getElem?_toArray, List.getElem?_cons_zero, List.getElem?_cons_succ]; (repeat (first | ((first | (with_reducible refine quietL_plain rfl (fun K hK => ?_)) | (with_reducible refine quietL_want (by with_unfolding_all rfl) (fun K hK => ?_))); (apply Exists.intro; refine ⟨fun wx hx => ?_, ?_⟩; (· (have hcx := ifs_ex hx); simp [go_sem, *, ↓IntWalk.iteOmega] <;> (first | rfl | exact ⟨rfl, rfl⟩ | fail)); (simp only [Act.put, List.setIfInBounds_toArray, List.set_cons_zero, List.set_cons_succ]; refine hK _ ?_; clear hK K))) | ((with_reducible refine quietL_skip (by with_unfolding_all rfl) ?_); simp only [Act.put, List.setIfInBounds_toArray, List.set_cons_zero, List.set_cons_succ]))); refine quietL_nil ?_)
            (refine anyB_end (by kernel_rfl) ?_; intro w5 hb5; have hs5 := hb5.size; (try simp at hs5); simp only [Calm])
            have HS5 := Lib.hid (HS1.out.kept hb5)
            go_wp2_with fail
            go_roundw
            case rel => exact ⟨k + 1, by omega, by go_num, HS5, Lib.hid (HOu.out.trans rfl)⟩
            case measure => simp [intOf]; omega
          | true =>
            rw [if_pos rfl] at hSu hOu
            have hS1 := HS.out.put (x' := ⟨xn, xq, true, xb⟩) (j := 2) (u := .bool true) HAt.out (by decide) rfl
            have hgt : ((curL set o.c a.m k).set k ⟨xn, xq, true, xb⟩)[k]? = some ⟨xn, xq, true, xb⟩ := List.getElem?_set_self (by rw [curL_len]; omega)
            have HS1 := Lib.hid hS1
            have HOu := Lib.hid hOu
            have HSu := Lib.hid hSu
            have HGt := Lib.hid hgt
            clear hS1 hSu hOu hgt
            go_wp2_with fail
            refine HCn.out.mono ?_
            rintro e w1' ⟨rfl, rfl⟩
            go_upto_region 11 with fail
            refine wp_world ?_
            intro W1 hW1
            rw [← hW1] at HS1
            clear hW1 cB lB fG lG y2 HCn
            obtain ⟨z0, z1, z2, z3⟩ := HS1.out.cells HGt.out
            dsimp only at z0 z1 z2 z3
            have lG1 := HS1.out.row.lt
            have cO1 := HS1.out.ord.cell
            have lO1 := HS1.out.ord.lt
            have hne1 : w.heap.size + 1 ≠ g := by omega
            go_upto_region 12 with fail
            (refine wp_region_calm [g] [0, 1, 2, 4, 5] 5 (by kernel_rfl) rfl (by kernel_rfl) (by kernel_rfl) (by kernel_rfl) ?_; simp only [pickB, List.filterMap_cons, List.filterMap_nil, List.getElem?_toArray, List.getElem?_cons_zero, List.getElem?_cons_succ]; (repeat (first | ((first | (with_reducible refine quietL_plain rfl (fun K hK => ?_)) | (with_reducible refine quietL_want (by with_unfolding_all rfl) (fun K hK => ?_))); (apply Exists.intro; refine ⟨fun wx hx => ?_, ?_⟩; (· (have hcx := ifs_ex hx); simp [go_sem, *, ↓IntWalk.iteOmega] <;> (first | rfl | exact ⟨rfl, rfl⟩ | fail)); (simp only [Act.put, List.setIfInBounds_toArray, List.set_cons_zero, List.set_cons_succ]; refine hK _ ?_; clear hK K))) | ((with_reducible refine quietL_skip (by with_unfolding_all rfl) ?_); simp only [Act.put, List.setIfInBounds_toArray, List.set_cons_zero, List.set_cons_succ]))); refine quietL_nil ?_)
            refine anyB_one (i := 3) (by kernel_rfl) rfl rfl ?_
            intro w4 hb4 K hK
            have hx4 := (HS1.out.kept hb4).cells HGt.out
            obtain ⟨_, y1, _, _⟩ := hx4
            dsimp only at y1
            have hs4 := hb4.size
            have lG4 : g < w4.heap.size := by omega
            go_wp2
            refine ⟨Ex.of_below hb4, ?_⟩
            (refine anyB_one (i := 6) (by kernel_rfl) rfl rfl ?_; intro w5 hb5 K hK; have hs5 := hb5.size; (try simp at hs5); go_wp2; refine ⟨xs_, ?_⟩)
            (refine anyB_one (i := 7) (by kernel_rfl) rfl rfl ?_; intro w6 hb6 K hK; have hs6 := hb6.size; (try simp at hs6); go_wp2; refine ⟨xs_, ?_⟩)
            (refine anyB_one (i := 8) (by kernel_rfl) rfl rfl ?_; intro w7 hb7 K hK; have hs7 := hb7.size; (try simp at hs7); go_wp2; refine ⟨xs_, ?_⟩)
            refine anyB_one (i := 9) (by kernel_rfl) rfl rfl ?_
            intro w8 hb8 K hK
            have hb18 : Below W1.heap.size W1 w8 := bl_
            have hS8 := HS1.out.kept hb18
            obtain ⟨_, y8, _, _⟩ := hS8.cells HGt.out
            dsimp only at y8
            have fG8 := hS8.row.frozen
            have lG8 := hS8.row.lt
            go_wp2
            refine ⟨Ex.set_in (by simp) (Ex.of_below hb18) _, ?_⟩
            refine anyB_end (by kernel_rfl) ?_
            intro w9 hb9
            simp only [Calm]
            have hS9 := (hS8.put (x' := ⟨xn, xq + o.c, true, xb⟩) (j := 1) (u := .int .i64 (xq + o.c)) HGt.out (by decide) rfl).kept hb9
            rw [List.set_set, HSu.out] at hS9
            have HS9 := Lib.hid hS9
            have hgt9 : (curL set o.c a.m (k + 1))[k]? = some ⟨xn, xq + o.c, true, xb⟩ := by rw [← HSu.out]; exact List.getElem?_set_self (by rw [curL_len]; omega)
            obtain ⟨v0, v1, v2, v3⟩ := hS9.cells hgt9
            dsimp only at v0 v1 v2 v3
            have lG9 := hS9.row.lt
            have cA9 := hS9.arm.cell
            have lA9 := hS9.arm.lt
            clear hS8 hS9 fG8 lG8 y8 y1 lG4 z0 z1 z2 z3 lG1 cO1 lO1 hb18 hb4 hb5 hb6 hb7 hb8 hb9 HS1 HSu hgt9 HGt
            go_upto_region 13 with fail
            have HHo := Lib.hid (fun W => holds_any a.lo a.hi (xq + o.c) W)
            have hob : outB a.lo a.hi ⟨xn, xq + o.c, true, xb⟩ = !(inB a.lo a.hi (xq + o.c)) := rfl
            have HOu2 := Lib.hid (HOu.out.trans hob)
            clear hob HOu
            obtain ⟨ib, hib⟩ : ∃ ib, inB a.lo a.hi (xq + o.c) = ib := ⟨_, rfl⟩
            rw [hib] at HHo HOu2
            clear hib
            cases ib with
            | true =>
              (refine wp_region_calm [] [0, 1, 2, 3, 4, 5, 6, 7, 8, 9, 10, 11, 12, 13] 0 (by kernel_rfl) rfl (by kernel_rfl) (by kernel_rfl) (by kernel_rfl) ?_; simp only [pickB, List.filterMap_cons, List.filterMap_nil, List.getElem?_toArray, List.getElem?_cons_zero, List.getElem?_cons_succ]; (repeat (first | ((first | (with_reducible refine quietL_plain rfl (fun K hK => ?_)) | (with_reducible refine quietL_want (by with_unfolding_all rfl) (fun K hK => ?_))); (apply Exists.intro; refine ⟨fun wx hx => ?_, ?_⟩; (· (have hcx := ifs_ex hx); simp [go_sem, *, ↓IntWalk.iteOmega] <;> (first | rfl | exact ⟨rfl, rfl⟩ | (with_reducible exact calls_B (HHo.out _)))); (simp only [Act.put, List.setIfInBounds_toArray, List.set_cons_zero, List.set_cons_succ]; refine hK _ ?_; clear hK K))) | ((with_reducible refine quietL_skip (by with_unfolding_all rfl) ?_); simp only [Act.put, List.setIfInBounds_toArray, List.set_cons_zero, List.set_cons_succ]))); refine quietL_nil ?_)
              (refine anyB_end (by kernel_rfl) ?_; intro w5 hb5; have hs5 := hb5.size; (try simp at hs5); simp only [Calm])
              have HS10 := Lib.hid (HS9.out.kept hb5)
              go_wp2_with fail
              go_roundw
              case rel => exact ⟨k + 1, by omega, by go_num, HS10, Lib.hid (HOu2.out.trans rfl)⟩
              case measure => simp [intOf]; omega
            | false =>
              have hst : stepE a o = 30 := by unfold stepE; rw [HE2.out, HSt0.out, outK_mono HOu2.out]; rfl
              have HSt := Lib.hid hst
              clear hst
              (refine wp_region_calm [] [0, 1, 2, 3, 4, 5, 6, 7, 8, 9, 10, 11, 12, 13] 0 (by kernel_rfl) rfl (by kernel_rfl) (by kernel_rfl) (by kernel_rfl) ?_; simp only [pickB, List.filterMap_cons, List.filterMap_nil, List.getElem?_toArray, List.getElem?_cons_zero, List.getElem?_cons_succ]; (repeat (first | ((first | (with_reducible refine quietL_plain rfl (fun K hK => ?_)) | (with_reducible refine quietL_want (by with_unfolding_all rfl) (fun K hK => ?_))); (apply Exists.intro; refine ⟨fun wx hx => ?_, ?_⟩; (· (have hcx := ifs_ex hx); simp [go_sem, *, ↓IntWalk.iteOmega] <;> (first | rfl | exact ⟨rfl, rfl⟩ | (with_reducible exact calls_B (HHo.out _)))); (simp only [Act.put, List.setIfInBounds_toArray, List.set_cons_zero, List.set_cons_succ]; refine hK _ ?_; clear hK K))) | ((with_reducible refine quietL_skip (by with_unfolding_all rfl) ?_); simp only [Act.put, List.setIfInBounds_toArray, List.set_cons_zero, List.set_cons_succ]))); refine quietL_nil ?_)
              (refine anyB_end (by kernel_rfl) ?_; intro w5 hb5; have hs5 := hb5.size; (try simp at hs5); simp only [Calm])
              have HS9a := HS9
              clear HS9
              have HS9 := Lib.hid (HS9a.out.kept hb5)
              have k2 := put5_blk (v0 := .slice none 0 0) (v1 := .int .i64 0) (v2 := .int .i64 0) (v3 := .int .i64 0) (v4 := .int .i64 0) HS9.out.res
              have k4 := put5_low (b := w.heap.size + 1 + 1) (v0 := .slice none 0 0) (v1 := .int .i64 0) (v2 := .int .i64 0) (v3 := .int .i64 0) (v4 := .int .i64 0) HS9.out.low (by omega)
              have K4 := Lib.hid k4
              have K2 := Lib.hid k2
              have cR := HS9.out.res.cell
              have fR := HS9.out.res.frozen
              have lR := HS9.out.res.lt
              clear k2 k4
              go_wp2_with fail
              have ck := K2.out.cell
              refine bodyPost_ret (v := .tuple #[.agg #[.slice none 0 0, .int .i64 0, .int .i64 0, .int .i64 0, .int .i64 0], .int .i64 30]) (by simp [results, Tryz.results55, go_sem, ck]) rfl ⟨K4.out, .inr ⟨by rw [HSt.out]; decide, by rw [HSt.out]⟩⟩
        · obtain rfl : k = n := by omega
          go_wp2_with fail
          go_meet
          case rel =>
            rw [← hl, curL_all] at HS
            rw [← hl, outK_all] at HO
            rw [← hl]
            exact ⟨HS, HO⟩
    rename World => w30
    obtain ⟨HS, HO⟩ := hcut
    have hst : stepE a o = 0 := by unfold stepE; rw [HE2.out, HSt0.out, HO.out]; rfl
    have HSt := Lib.hid hst
    have hg0 := HS.out.g0
    have hg1 := HS.out.g1
    have cB := HS.out.out.cell
    have lB := HS.out.out.lt
    have cR := HS.out.res.cell
    have fR := HS.out.res.frozen
    have lR := HS.out.res.lt
    have k2 := put5_blk (v0 := .slice (some ⟨g, 0, none⟩) n n) (v1 := .int .i64 a.lo) (v2 := .int .i64 a.hi) (v3 := .int .i64 a.cur) (v4 := .int .i64 a.lim) HS.out.res
    have k4 := put5_low (b := w.heap.size + 1 + 1) (v0 := .slice (some ⟨g, 0, none⟩) n n) (v1 := .int .i64 a.lo) (v2 := .int .i64 a.hi) (v3 := .int .i64 a.cur) (v4 := .int .i64 a.lim) HS.out.low (by omega)
    have k3 := put5_far (b := w.heap.size + 1 + 1) (v0 := .slice (some ⟨g, 0, none⟩) n n) (v1 := .int .i64 a.lo) (v2 := .int .i64 a.hi) (v3 := .int .i64 a.cur) (v4 := .int .i64 a.lim) HS.out.row (by omega)
    have K4 := Lib.hid k4
    have K2 := Lib.hid k2
    have K3 := Lib.hid k3
    clear k2 k4 k3 hst
    go_wp2_with fail
    have ck := K2.out.cell
    refine bodyPost_ret (v := .tuple #[.agg #[.slice (some ⟨g, 0, none⟩) n n, .int .i64 a.lo, .int .i64 a.hi, .int .i64 a.cur, .int .i64 a.lim], .int .i64 0]) (by simp [results, Tryz.results55, go_sem, ck]) rfl ⟨K4.out, .inl ⟨HSt.out, g, by rw [hl], ?_, by omega⟩⟩
    show Blk _ _ _ (mds (stepMs (choiceA a o) o.c 0 a.m)).toArray
    rw [HSt0.out]
    exact K3.out
  · have hne : (E2 != 0) = true := by simpa using h2
    have hst : stepE a o = E2 := by unfold stepE or0; rw [HE2.out, if_neg h2]
    have HSt := Lib.hid hst
    have k2 := put5_blk (v0 := .slice none 0 0) (v1 := .int .i64 0) (v2 := .int .i64 0) (v3 := .int .i64 0) (v4 := .int .i64 0) bR
    have k4 := put5_low (b := w.heap.size + 1 + 1) (v0 := .slice none 0 0) (v1 := .int .i64 0) (v2 := .int .i64 0) (v3 := .int .i64 0) (v4 := .int .i64 0) HL1.out (by omega)
    have K4 := Lib.hid k4
    have K2 := Lib.hid k2
    clear k2 k4 hst
    go_wp2_with fail
    have ck := K2.out.cell
    refine bodyPost_ret (v := .tuple #[.agg #[.slice none 0 0, .int .i64 0, .int .i64 0, .int .i64 0, .int .i64 0], .int .i64 E2]) (by simp [results, Tryz.results55, go_sem, ck]) rfl ⟨K4.out, .inr ⟨by rw [HSt.out]; exact h2, by rw [HSt.out]⟩⟩
end Go.Proofs.YtafnebfchhmgcaaGreat
/- Step of the program. -/
namespace Go.Proofs.YtafnebfchhmgcaaGreat
open Go.RowKit Go.Sort Go.Shelf
set_option linter.unusedSimpArgs false
set_option linter.unusedVariables false
attribute [local go_sem] cell_if frozen_if grow_cell
def stpE (a : Ar) (o : Od) : Int := or0 (firstE [armE a, orderE o]) (stepE a o)
set_option maxRecDepth 100000 in
set_option maxHeartbeats 4000000 in
theorem Step_any (B : Nat) (A : Option Addr) (n c : Nat) (a : Ar) (o : Od) (w : World) (hM : MsAt w B A n a.m) (hB : B ≤ w.heap.size) (hF : FitA a) (hnc : n ≤ c) :
    Calls Tryz.prog 12 #[.agg #[.slice A n c, .int .i64 a.lo, .int .i64 a.hi, .int .i64 a.cur, .int .i64 a.lim], .agg #[.int .i64 o.n, .int .i64 o.c]] w (StepRes w a o (stpE a o)) := by
  have hl := (md_at hM).1
  have h17 := hF.len
  have HC := Lib.hid (fun W (hW : Below w.heap.size w W) => CheckArm_any B A n c a W (hM.below (hW.mono hB)) (by have := hW.size; omega) hF hnc)
  have HMs := Lib.hid hM
  obtain ⟨E1, hE1⟩ : ∃ E1, firstE [armE a, orderE o] = E1 := ⟨_, rfl⟩
  have HE1 := Lib.hid hE1
  have HOk : Hid (E1 = 0 → armE a = 0 ∧ orderE o = 0) := Lib.hid (fun h => by
    rw [h, firstE_cons, firstE_cons] at hE1
    obtain ⟨q1, q2⟩ := or0_zero hE1
    exact ⟨q1, (or0_zero q2).1⟩)
  clear hM hF hE1
  go_enter Tryz.func12, Tryz.ntmps12
  go_wp2_with fail
  refine wp_world ?_
  intro W0 hW0
  have hb0 : Below w.heap.size w W0 := by rw [hW0]; exact bl_
  have bA0 : Blk W0 w.heap.size 36 #[.slice A n c, .int .i64 a.lo, .int .i64 a.hi, .int .i64 a.cur, .int .i64 a.lim] := by rw [hW0]; exact bk_
  have bO0 : Blk W0 (w.heap.size + 1) 45 #[.int .i64 o.n, .int .i64 o.c] := by rw [hW0]; exact bk_
  have HC1 := Lib.hid (fun W (hW : Below W0.heap.size W0 W) => HC.out W (hb0.trans (hW.mono hb0.size)))
  have cA0 := bA0.cell
  have lA0 := bA0.lt
  have cO0 := bO0.cell
  have lO0 := bO0.lt
  have bR0 : Blk W0 (w.heap.size + 1 + 1) 36 #[.slice none 0 0, .int .i64 0, .int .i64 0, .int .i64 0, .int .i64 0] := by rw [hW0]; exact bk_
  clear hW0
  (refine wp_region_calm [] [0, 1, 2, 3] 3 (by kernel_rfl) rfl (by kernel_rfl) (by kernel_rfl) (by kernel_rfl) ?_; simp only [pickB, List.filterMap_cons, List.filterMap_nil, List.getElem?_toArray, List.getElem?_cons_zero, List.getElem?_cons_succ]; (repeat (first | ((first | (with_reducible refine quietL_plain rfl (fun K hK => ?_)) | (with_reducible refine quietL_want (by with_unfolding_all rfl) (fun K hK => ?_))); (apply Exists.intro; refine ⟨fun wx hx => ?_, ?_⟩; (· (have hcx := ifs_ex hx); simp [go_sem, *, ↓IntWalk.iteOmega] <;> (first | rfl | exact ⟨rfl, rfl⟩ | (first | (with_reducible exact calls_B (HC1.out _ (Ex.low hx))) | (with_reducible exact calls_B (ocheck_any o _))))); (simp only [Act.put, List.setIfInBounds_toArray, List.set_cons_zero, List.set_cons_succ]; refine hK _ ?_; clear hK K))) | ((with_reducible refine quietL_skip (by with_unfolding_all rfl) ?_); simp only [Act.put, List.setIfInBounds_toArray, List.set_cons_zero, List.set_cons_succ]))); refine quietL_nil ?_)
  (refine anyB_one (i := 4) (by kernel_rfl) rfl rfl ?_; intro w2 hb2 K hK; have hs2 := hb2.size; (try simp at hs2); go_wp2; refine ⟨xs_, ?_⟩)
  (refine anyB_one (i := 5) (by kernel_rfl) rfl rfl ?_; intro w3 hb3 K hK; obtain ⟨hc3, hf3⟩ := ifs_of hb3; have hs3 := hb3.size; (try simp at hs3); go_wp2_with fail; refine (afirst_any (w2.heap.size + 1) _ 2 2 [armE a, orderE o] _ ((by simpa using Reads.new (size := 1) w2 (([armE a, orderE o]).map (.int .i64)).toArray 31 2 rfl : Reads (w2.alloc (.cells (([armE a, orderE o]).map (.int .i64)).toArray 31)) (w2.heap.size + 1) 1 (some ⟨w2.heap.size, 0, none⟩) 2 (([armE a, orderE o]).map (.int .i64))).below (hb3.mono (by simp))) (by unfold maxLen; decide)).mono ?_; rintro e w3' ⟨rfl, rfl⟩; go_wp2; refine ⟨xs_, ?_⟩)
  (refine anyB_one (i := 6) (by kernel_rfl) rfl rfl ?_; intro w4 hb4 K hK; have hs4 := hb4.size; (try simp at hs4); go_wp2; refine ⟨xs_, ?_⟩)
  (refine anyB_end (by kernel_rfl) ?_; intro w5 hb5; have hs5 := hb5.size; (try simp at hs5); simp only [Calm])
  have hb05 : Below W0.heap.size W0 w5 := bl_
  have bA5 := bA0.kept hb05
  have bO5 := bO0.kept hb05
  have HB5 := Lib.hid (hb0.trans (hb05.mono hb0.size))
  have cA5 := bA5.cell
  have lA5 := bA5.lt
  have cO5 := bO5.cell
  have lO5 := bO5.lt
  have bR5 := bR0.kept hb05
  clear cA0 lA0 cO0 lO0 bA0 bO0 hb05 hb0 HC1 HC hb2 hb3 hb4 hb5
  rw [HE1.out]
  have hs5 := HB5.out.size
  have cR := bR5.cell
  have fR := bR5.frozen
  have lR := bR5.lt
  by_cases h1 : E1 = 0
  · subst h1
    obtain ⟨hE, ho⟩ := HOk.out rfl
    have hM5 := HMs.out.below (HB5.out.mono hB)
    have HSt := Lib.hid (step_any B A n c a o w5 hM5 (by omega) (by omega) hE ho)
    have HCh : Hid (stpE a o = stepE a o) := Lib.hid (by unfold stpE or0; rw [HE1.out, if_pos rfl])
    have HBR := Lib.hid bR5
    clear hM5 hE ho cR fR lR bR5 bR0
    go_wp2_with fail
    refine HSt.out.mono ?_
    rintro e w6 ⟨hb6, hres⟩
    have bR6 := HBR.out.kept hb6
    have cR := bR6.cell
    have fR := bR6.frozen
    have lR := bR6.lt
    have hlow := HB5.out.trans (hb6.mono HB5.out.size)
    rcases hres with ⟨he, g, rfl, hbg, hgl⟩ | ⟨he, rfl⟩
    · have k2 := put5_blk (v0 := .slice (some ⟨g, 0, none⟩) n n) (v1 := .int .i64 a.lo) (v2 := .int .i64 a.hi) (v3 := .int .i64 a.cur) (v4 := .int .i64 a.lim) bR6
      have k4 := put5_low (b := w.heap.size + 1 + 1) (v0 := .slice (some ⟨g, 0, none⟩) n n) (v1 := .int .i64 a.lo) (v2 := .int .i64 a.hi) (v3 := .int .i64 a.cur) (v4 := .int .i64 a.lim) hlow (by omega)
      have k3 := put5_far (b := w.heap.size + 1 + 1) (v0 := .slice (some ⟨g, 0, none⟩) n n) (v1 := .int .i64 a.lo) (v2 := .int .i64 a.hi) (v3 := .int .i64 a.cur) (v4 := .int .i64 a.lim) hbg (by have := HBR.out.lt; omega)
      have K4 := Lib.hid k4
      have K2 := Lib.hid k2
      have K3 := Lib.hid k3
      have HE := Lib.hid he
      clear k2 k4 k3 hlow hbg hb6 he HSt HBR bR6
      go_wp2_with fail
      have ck := K2.out.cell
      refine bodyPost_ret (v := .tuple #[.agg #[.slice (some ⟨g, 0, none⟩) n n, .int .i64 a.lo, .int .i64 a.hi, .int .i64 a.cur, .int .i64 a.lim], .int .i64 0]) (by simp [results, Tryz.results12, go_sem, ck]) rfl ⟨K4.out, .inl ⟨HCh.out.trans HE.out, g, by rw [hl], K3.out, by omega⟩⟩
    · have k2 := put5_blk (v0 := .slice none 0 0) (v1 := .int .i64 0) (v2 := .int .i64 0) (v3 := .int .i64 0) (v4 := .int .i64 0) bR6
      have k4 := put5_low (b := w.heap.size + 1 + 1) (v0 := .slice none 0 0) (v1 := .int .i64 0) (v2 := .int .i64 0) (v3 := .int .i64 0) (v4 := .int .i64 0) hlow (by omega)
      have K4 := Lib.hid k4
      have K2 := Lib.hid k2
      have HE := Lib.hid he
      clear k2 k4 hlow hb6 he HSt HBR bR6
      go_wp2_with fail
      have ck := K2.out.cell
      refine bodyPost_ret (v := .tuple #[.agg #[.slice none 0 0, .int .i64 0, .int .i64 0, .int .i64 0, .int .i64 0], .int .i64 (stepE a o)]) (by simp [results, Tryz.results12, go_sem, ck]) rfl ⟨K4.out, .inr ⟨by rw [HCh.out]; exact HE.out, by rw [HCh.out]⟩⟩
  · have hne : (E1 != 0) = true := by simpa using h1
    have HCh : Hid (stpE a o = E1) := Lib.hid (by unfold stpE or0; rw [HE1.out, if_neg h1])
    have k2 := put5_blk (v0 := .slice none 0 0) (v1 := .int .i64 0) (v2 := .int .i64 0) (v3 := .int .i64 0) (v4 := .int .i64 0) bR5
    have k4 := put5_low (b := w.heap.size + 1 + 1) (v0 := .slice none 0 0) (v1 := .int .i64 0) (v2 := .int .i64 0) (v3 := .int .i64 0) (v4 := .int .i64 0) HB5.out (by omega)
    have K4 := Lib.hid k4
    have K2 := Lib.hid k2
    clear k2 k4
    go_wp2_with fail
    have ck := K2.out.cell
    refine bodyPost_ret (v := .tuple #[.agg #[.slice none 0 0, .int .i64 0, .int .i64 0, .int .i64 0, .int .i64 0], .int .i64 E1]) (by simp [results, Tryz.results12, go_sem, ck]) rfl ⟨K4.out, .inr ⟨by rw [HCh.out]; exact h1, by rw [HCh.out]⟩⟩
end Go.Proofs.YtafnebfchhmgcaaGreat
