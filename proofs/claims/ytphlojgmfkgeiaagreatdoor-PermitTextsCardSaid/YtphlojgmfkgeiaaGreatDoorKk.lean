/- Joined texts: WB WC WD WE. -/
import Derived.Laws.MakeOwn
import Derived.Test.YtphlojgmfkgeiaaGreatDoorKd
import Derived.Test.YtphlojgmfkgeiaaGreatDoorKa
import Derived.Test.YtphlojgmfkgeiaaGreatDoorKe
/- Reference: the island by marks. -/
namespace Go.Proofs.YtphlojgmfkgeiaaGreatDoor
open Go.RowKit Go.Sort Go.Shelf
set_option linter.unusedSimpArgs false
set_option linter.unusedVariables false
attribute [local go_sem] cell_if frozen_if grow_cell
theorem elemBool : Elem Tryz.prog 193 4 1 1 := elem_of Tryz.underlying193 (z := .bool false) (by kernel_rfl) rfl (by decide)
def bls (m : List Bool) : Array Value := (m.map Value.bool).toArray
theorem made_bools (n : Nat) : madeCells (Value.bool false).cells n = bls (List.replicate n false) := by
  apply Array.ext
  · rw [size_madeCells]; simp [bls]
  · intro i h1 h2
    simp [madeCells, bls, Value.cells, Nat.mod_one]
theorem bls_get (m : List Bool) (k : Nat) (h : k < m.length) : (bls m)[k]? = some (.bool (mrk m k)) := by
  simp [bls, mrk, h]
theorem bls_set (m : List Bool) (k : Nat) (q : Bool) : (bls m).setIfInBounds k (.bool q) = bls (m.set k q) := by
  apply Array.toList_inj.1
  rw [Array.toList_setIfInBounds]
  simp [bls, List.map_set]
theorem row_own_neW {w : World} {base size n k : Nat} {e t : TypeId} {v : Value} {xs : List Value} {c : Array Value} (h : w.ownsRow base e size v n xs) (hk : Blk w k t c) (ht : t ≠ e) : v.ownBlock ≠ some k := by
  intro hv
  rcases h.2 with ⟨rfl, _⟩ | ⟨g, cap, cur, rfl, _, hg, _⟩
  · cases hv
  · simp [Value.ownBlock] at hv
    subst hv
    unfold Blk at hk
    rw [hg] at hk
    cases hk
    exact ht rfl
def isF : Option Value → Bool
  | some (.bool false) => true
  | _ => false
/-- How many marks of a block are off. -/
def offs (W : World) (g n : Nat) : Nat := ((List.range n).filter fun i => isF (W.cell? ⟨g, i, none⟩)).length
theorem offs_eq {W : World} {g n : Nat} {t : TypeId} {m : List Bool} (h : Blk W g t (bls m)) (hn : m.length = n) : offs W g n = nFalse m := by
  unfold offs
  have e : (List.range n).filter (fun i => isF (W.cell? ⟨g, i, none⟩)) = (List.range n).filter (fun i => m.getD i true == false) := by
    refine List.filter_congr fun i hi => ?_
    have hi : i < m.length := by have := List.mem_range.1 hi; omega
    rw [h.cell]
    have : (bls m)[i]? = some (.bool m[i]) := by simp [bls, hi]
    rw [this]
    cases hb : m[i] <;> simp [isF, hi, hb]
  rw [e]
  subst hn
  clear e h
  induction m with
  | nil => rfl
  | cons a r ih =>
    have hr : List.range (a :: r).length = 0 :: (List.range r.length).map (· + 1) := by
      rw [List.length_cons, List.range_succ_eq_map]
    rw [hr, List.filter_cons, List.filter_map]
    have e2 : ((fun i => (a :: r).getD i true == false) ∘ fun x => x + 1) = fun i => r.getD i true == false := by
      funext i; simp
    rw [e2]
    cases a <;> simp [nFalse] at ih ⊢ <;> omega
/-- The result is a row of the call's own (nil let in) that reads as zs. -/
def IntsRow (w : World) (zs : List Int) (e : Ending) (w' : World) : Prop := ∃ A cap, e = .returned (.slice A zs.length cap) ∧ w'.ownsRow w.heap.size 3 1 (.slice A zs.length cap) zs.length (zs.map (.int .i64)) ∧ Below w.heap.size w w'
theorem IntsRow.res {w w' : World} {zs : List Int} {e : Ending} (h : IntsRow w zs e w') : IntsRes w zs e w' := by
  obtain ⟨A, cap, rfl, hO, hb⟩ := h
  obtain ⟨A', cap', e, _, _, hr⟩ := own_form hO
  cases e
  exact ⟨_, _, rfl, hr, hb⟩
set_option maxRecDepth 100000 in
set_option maxHeartbeats 4000000 in
theorem rIsland_any (B : Nat) (A0 A1 A2 : Option Addr) (n0 n1 n2 c0 c1 c2 : Nat) (y : Yd) (i : Int) (all : Bool) (w : World) (hY : YdAt w B A0 A1 A2 n0 n1 n2 y) (hB : B ≤ w.heap.size) (hE : EndsIn y.s.length y.w) (hi : i ∈ rng y.s.length) (hn0 : y.s.length ≤ 9) (hn1 : n1 ≤ 9) :
    Calls Tryz.prog 102 #[.agg #[.slice A0 n0 c0, .slice A1 n1 c1, .slice A2 n2 c2], .int .i64 i, .bool all] w (IntsRow w (y.isl all i)) := by
  obtain ⟨i0, i1⟩ := mem_rng.1 hi
  obtain ⟨s, rfl⟩ := Int.eq_ofNat_of_zero_le i0
  have hl0 := (sec_at hY.hs).1
  obtain ⟨hl1, ha1⟩ := sw_at hY.hw
  have HA1 := Lib.hid ha1
  have HL0 := Lib.hid hl0
  have HL1 := Lib.hid hl1
  have HI := Lib.hid hi
  have HE := Lib.hid hE
  have hsn : (s : Int) < (n0 : Int) := by omega
  have h9 : n0 ≤ 9 := by omega
  obtain ⟨ht, ⟨ix, z, g1, g2, g3, g4, g5⟩, hp⟩ := elemBool
  have hz : z = .bool false := by
    have : (Tryz.prog.info? 4).bind (·.zero) = some (.bool false) := by kernel_rfl
    rw [g1] at this
    simpa [g2] using this
  subst hz
  have hm : ∀ w, (Instr.makeSlice 193 (.int .i64 (n0 : Int)) (.int .i64 (n0 : Int))).run Tryz.prog w = .ok (.slice (some ⟨w.heap.size, 0, none⟩) n0 n0) (w.alloc (.cells (bls (List.replicate n0 false)) 4)) := fun w => by
    have := run_make (P := Tryz.prog) w _ _ ix (.bool false) ht g1 g2 .i64 .i64 (n0 : Int) (n0 : Int) (by omega) (by omega) (by rw [g4]; omega) (by omega)
    rw [g3] at this
    simpa [made_bools] using this
  have hcs : (bls (List.replicate n0 false))[s]? = some (.bool false) := by
    have h := bls_get (List.replicate n0 false) s (by simp; omega)
    rw [h]
    have : (List.replicate n0 false)[s]? = some false := by rw [List.getElem?_replicate, if_pos (by omega)]
    simp [mrk, List.getD_eq_getElem?_getD, this]
  have HZS : Hid ((bls (List.replicate n0 false)).setIfInBounds s (.bool true) = bls ((List.replicate n0 false).set s true)) := by show _ = _; exact bls_set _ _ _
  have HM0 : Hid (Mk y.s.length y.w all s ((List.replicate n0 false).set s true)) := by
    have := Mk.start (l := y.w) (all := all) hi
    rw [hl0] at this ⊢
    exact Lib.hid (by simpa using this)
  generalize bls (List.replicate n0 false) = z0 at *
  generalize (List.replicate n0 false).set s true = m0 at *
  clear g1 g2 g3 g4 g5 ht hp hY i0 i1 hi hE ha1
  go_enter Tryz.func102, Tryz.ntmps102
  go_wp2_with fail
  go_loopw [8] (fun v8 wr => ∃ (m : List Bool) (q : Bool), v8 = .bool q ∧ Blk wr (w.heap.size + 1) 4 (bls m) ∧ Mk y.s.length y.w all s m ∧ (q = false → mMore all m y.w = false) ∧ Blk wr w.heap.size 26 #[.slice A0 n0 c0, .slice A1 n1 c1, .slice A2 n2 c2] ∧ Below w.heap.size w wr) (fun v8 wr => 2 * offs wr (w.heap.size + 1) n0 + (match v8 with | .bool true => 1 | _ => 0))
  case atStart =>
    refine ⟨m0, true, rfl, ?_, HM0.out, (fun h => by cases h), bk_, bl_⟩
    rw [← HZS.out]
    exact Blk.new_at _ _ (by simp)
  case round =>
    obtain ⟨m, q, rfl, bm, hM, hq, bY, hb⟩ := hrel
    have hsr := hb.size
    have cY := bY.cell
    have hlm := Lib.hid hM.len
    have HOF : Hid (offs wr (w.heap.size + 1) n0 = nFalse m) := by show _ = _; exact offs_eq bm (by rw [hlm.out, HL0.out])
    cases q with
    | true =>
      have BM := Lib.hid bm
      have HM := Lib.hid hM
      have BY := Lib.hid bY
      clear bm hM bY hq
      go_wp2_with fail
      go_loopw [8, 9] (fun v8 i wx => ∃ k : Nat, k ≤ n1 ∧ i = .int .i64 k ∧ v8 = .bool (mMore all m (y.w.take k)) ∧ Blk wx (w.heap.size + 1) 4 (bls (mPass all m (y.w.take k))) ∧ Blk wx w.heap.size 26 #[.slice A0 n0 c0, .slice A1 n1 c1, .slice A2 n2 c2] ∧ Below w.heap.size w wx) (fun _ i _ => n1 - (intOf i).toNat)
      case atStart => exact ⟨0, by omega, rfl, rfl, BM.out, BY.out, hb⟩
      case round =>
        clear cY hb
        obtain ⟨k, hk, rfl, rfl, bk, bY, hb⟩ := hrel
        have hsx := hb.size
        have cY := bY.cell
        have BY' := Lib.hid bY
        have BK := Lib.hid bk
        clear bY bk
        by_cases hlt : k < n1
        · have hkl : k < y.w.length := by rw [HL1.out]; exact hlt
          obtain ⟨b, o, eA, hbb, z0, z1, z2, z3, z4⟩ := HA1.out k hkl
          have kb : ∀ i, wr.cell? ⟨b, i, none⟩ = w.cell? ⟨b, i, none⟩ := fun i => hb.cell (p := ⟨b, i, none⟩) (by simp; omega)
          rw [← kb] at z0 z1 z2 z3 z4
          clear kb
          subst eA
          have HS1 := Lib.hid (mPass_succ all m y.w k hkl)
          have HS2 := Lib.hid (mMore_succ all m y.w k hkl)
          have HX := Lib.hid (HE.out y.w[k] (List.getElem_mem hkl))
          have HML := Lib.hid (HM.out.pass HE.out HI.out (y.w.take k) (fun x hx => List.mem_of_mem_take hx)).len
          generalize mPass all m (y.w.take k) = mk at *
          generalize mMore all m (y.w.take k) = qk at *
          generalize y.w[k] = x at *
          obtain ⟨xn, xk, xa, xb, xc⟩ := x
          dsimp only at z0 z1 z2 z3 z4
          have HJ := Lib.hid (fun W => joins_any ⟨xn, xk, xa, xb, xc⟩ all W)
          cases hj : joinsB ⟨xn, xk, xa, xb, xc⟩ all with
          | false =>
            rw [hj] at HJ
            have HH : Hid (mHit all mk ⟨xn, xk, xa, xb, xc⟩ = false) := by show _ = _; unfold mHit; rw [hj]; rfl
            go_wp2_with fail
            (refine wp_region_calm [] [0, 1, 2, 3, 4, 5, 6, 7, 8, 9, 10, 11, 12, 13, 14, 15] 0 (by kernel_rfl) rfl (by kernel_rfl) (by kernel_rfl) (by kernel_rfl) ?_; simp only [pickB, List.filterMap_cons, List.filterMap_nil, List.getElem?_toArray, List.getElem?_cons_zero, List.getElem?_cons_succ]; (repeat (first | ((first | (with_reducible refine quietL_plain rfl (fun K hK => ?_)) | (with_reducible refine quietL_want (by with_unfolding_all rfl) (fun K hK => ?_))); (apply Exists.intro; refine ⟨fun wx hx => ?_, ?_⟩; (· (have hcx := ifs_ex hx); simp [go_sem, *, ↓IntWalk.iteOmega] <;> (first | rfl | exact ⟨rfl, rfl⟩ | (exact calls_B (HJ.out _)))); (simp only [Act.put, List.setIfInBounds_toArray, List.set_cons_zero, List.set_cons_succ]; refine hK _ ?_; clear hK K))) | ((with_reducible refine quietL_skip (by with_unfolding_all rfl) ?_); simp only [Act.put, List.setIfInBounds_toArray, List.set_cons_zero, List.set_cons_succ]))); refine quietL_nil ?_)
            (refine anyB_end (by kernel_rfl) ?_; intro w5 hb5; obtain ⟨hc5, hf5⟩ := ifs_of hb5; have hs5 := hb5.size; (try simp at hs5); simp only [Calm]; go_wp2_with fail)
            go_roundw
            case rel => exact ⟨k + 1, by omega, by go_num, by rw [HS2.out, HH.out, Bool.or_false], by rw [HS1.out, mStep, HH.out]; exact BK.out.kept bl_, BY'.out.kept bl_, bl_⟩
            case measure => simp [intOf]; omega
          | true =>
            rw [hj] at HJ
            obtain ⟨⟨a0, a1⟩, b0, b1⟩ := HX.out (joins_kind hj)
            dsimp only at a0 a1 b0 b1
            obtain ⟨ia, rfl⟩ := Int.eq_ofNat_of_zero_le a0
            obtain ⟨ib, rfl⟩ := Int.eq_ofNat_of_zero_le b0
            have a2 : (ia : Int) < (n0 : Int) := by have := HL0.out; omega
            have b2 : (ib : Int) < (n0 : Int) := by have := HL0.out; omega
            have ga := bls_get mk ia (by rw [HML.out]; omega)
            have gb := bls_get mk ib (by rw [HML.out]; omega)
            have ck := BK.out.cell
            have lk := BK.out.lt
            have HH : Hid (mHit all mk ⟨xn, xk, ia, ib, xc⟩ = (mrk mk ia != mrk mk ib)) := by show _ = _; unfold mHit; rw [hj]; rfl
            clear a0 a1 b0 b1
            have fk := BK.out.frozen
            have hpq : Hid (∀ p q : Bool, mrk mk ia = p → mrk mk ib = q → (p != q) = true → ia ≠ ib) := by
              show ∀ _ _, _
              rintro p q rfl rfl h rfl
              simp at h
            generalize hpa : mrk mk ia = pa at *
            generalize hpb : mrk mk ib = pb at *
            clear hpa hpb
            cases pa <;> cases pb
            · have HH' : Hid (mHit all mk ⟨xn, xk, ia, ib, xc⟩ = false) := HH
              clear hpq HH
              go_wp2_with fail
              (refine wp_region_calm [] [0, 1, 2, 3, 4, 5, 6, 7, 8, 9, 10, 11, 12, 13, 14, 15] 0 (by kernel_rfl) rfl (by kernel_rfl) (by kernel_rfl) (by kernel_rfl) ?_; simp only [pickB, List.filterMap_cons, List.filterMap_nil, List.getElem?_toArray, List.getElem?_cons_zero, List.getElem?_cons_succ]; (repeat (first | ((first | (with_reducible refine quietL_plain rfl (fun K hK => ?_)) | (with_reducible refine quietL_want (by with_unfolding_all rfl) (fun K hK => ?_))); (apply Exists.intro; refine ⟨fun wx hx => ?_, ?_⟩; (· (have hcx := ifs_ex hx); simp [go_sem, *, ↓IntWalk.iteOmega] <;> (first | rfl | exact ⟨rfl, rfl⟩ | (exact calls_B (HJ.out _)))); (simp only [Act.put, List.setIfInBounds_toArray, List.set_cons_zero, List.set_cons_succ]; refine hK _ ?_; clear hK K))) | ((with_reducible refine quietL_skip (by with_unfolding_all rfl) ?_); simp only [Act.put, List.setIfInBounds_toArray, List.set_cons_zero, List.set_cons_succ]))); refine quietL_nil ?_)
              (refine anyB_end (by kernel_rfl) ?_; intro w5 hb5; obtain ⟨hc5, hf5⟩ := ifs_of hb5; have hs5 := hb5.size; (try simp at hs5); simp only [Calm]; go_wp2_with fail)
              go_roundw
              case rel => exact ⟨k + 1, by omega, by go_num, by rw [HS2.out, HH'.out, Bool.or_false], by rw [HS1.out, mStep, HH'.out]; exact BK.out.kept bl_, BY'.out.kept bl_, bl_⟩
              case measure => simp [intOf]; omega
            · have HH' : Hid (mHit all mk ⟨xn, xk, ia, ib, xc⟩ = true) := HH
              have hne := hpq.out _ _ rfl rfl rfl
              clear hpq HH
              go_wp2_with fail
              (refine wp_region_calm [] [0, 1, 2, 3, 4, 5, 6, 7, 8, 9, 10, 11, 12, 13, 14, 15] 0 (by kernel_rfl) rfl (by kernel_rfl) (by kernel_rfl) (by kernel_rfl) ?_; simp only [pickB, List.filterMap_cons, List.filterMap_nil, List.getElem?_toArray, List.getElem?_cons_zero, List.getElem?_cons_succ]; (repeat (first | ((first | (with_reducible refine quietL_plain rfl (fun K hK => ?_)) | (with_reducible refine quietL_want (by with_unfolding_all rfl) (fun K hK => ?_))); (apply Exists.intro; refine ⟨fun wx hx => ?_, ?_⟩; (· (have hcx := ifs_ex hx); simp [go_sem, *, ↓IntWalk.iteOmega] <;> (first | rfl | exact ⟨rfl, rfl⟩ | (exact calls_B (HJ.out _)))); (simp only [Act.put, List.setIfInBounds_toArray, List.set_cons_zero, List.set_cons_succ]; refine hK _ ?_; clear hK K))) | ((with_reducible refine quietL_skip (by with_unfolding_all rfl) ?_); simp only [Act.put, List.setIfInBounds_toArray, List.set_cons_zero, List.set_cons_succ]))); refine quietL_nil ?_)
              (refine anyB_end (by kernel_rfl) ?_; intro w5 hb5; obtain ⟨hc5, hf5⟩ := ifs_of hb5; have hs5 := hb5.size; (try simp at hs5); simp only [Calm]; go_wp2_with fail)
              go_roundw
              case rel => exact ⟨k + 1, by omega, by go_num, by rw [HS2.out, HH'.out, Bool.or_true], by rw [HS1.out, mStep, HH'.out, if_pos rfl, ← bls_set, ← bls_set]; exact ((BK.out.kept (bl_ : Below wr.heap.size wr w5)).set_ ia (.bool true)).set_ ib (.bool true), ((BY'.out.kept (bl_ : Below wr.heap.size wr w5)).far (by simp) _).far (by simp) _, ((bl_ : Below w.heap.size w w5).setCell (p := ⟨w.heap.size + 1, ia, none⟩) (by simp) _).setCell (p := ⟨w.heap.size + 1, ib, none⟩) (by simp) _⟩
              case measure => simp [intOf]; omega
            · have HH' : Hid (mHit all mk ⟨xn, xk, ia, ib, xc⟩ = true) := HH
              have hne := hpq.out _ _ rfl rfl rfl
              clear hpq HH
              go_wp2_with fail
              (refine wp_region_calm [] [0, 1, 2, 3, 4, 5, 6, 7, 8, 9, 10, 11, 12, 13, 14, 15] 0 (by kernel_rfl) rfl (by kernel_rfl) (by kernel_rfl) (by kernel_rfl) ?_; simp only [pickB, List.filterMap_cons, List.filterMap_nil, List.getElem?_toArray, List.getElem?_cons_zero, List.getElem?_cons_succ]; (repeat (first | ((first | (with_reducible refine quietL_plain rfl (fun K hK => ?_)) | (with_reducible refine quietL_want (by with_unfolding_all rfl) (fun K hK => ?_))); (apply Exists.intro; refine ⟨fun wx hx => ?_, ?_⟩; (· (have hcx := ifs_ex hx); simp [go_sem, *, ↓IntWalk.iteOmega] <;> (first | rfl | exact ⟨rfl, rfl⟩ | (exact calls_B (HJ.out _)))); (simp only [Act.put, List.setIfInBounds_toArray, List.set_cons_zero, List.set_cons_succ]; refine hK _ ?_; clear hK K))) | ((with_reducible refine quietL_skip (by with_unfolding_all rfl) ?_); simp only [Act.put, List.setIfInBounds_toArray, List.set_cons_zero, List.set_cons_succ]))); refine quietL_nil ?_)
              (refine anyB_end (by kernel_rfl) ?_; intro w5 hb5; obtain ⟨hc5, hf5⟩ := ifs_of hb5; have hs5 := hb5.size; (try simp at hs5); simp only [Calm]; go_wp2_with fail)
              go_roundw
              case rel => exact ⟨k + 1, by omega, by go_num, by rw [HS2.out, HH'.out, Bool.or_true], by rw [HS1.out, mStep, HH'.out, if_pos rfl, ← bls_set, ← bls_set]; exact ((BK.out.kept (bl_ : Below wr.heap.size wr w5)).set_ ia (.bool true)).set_ ib (.bool true), ((BY'.out.kept (bl_ : Below wr.heap.size wr w5)).far (by simp) _).far (by simp) _, ((bl_ : Below w.heap.size w w5).setCell (p := ⟨w.heap.size + 1, ia, none⟩) (by simp) _).setCell (p := ⟨w.heap.size + 1, ib, none⟩) (by simp) _⟩
              case measure => simp [intOf]; omega
            · have HH' : Hid (mHit all mk ⟨xn, xk, ia, ib, xc⟩ = false) := HH
              clear hpq HH
              go_wp2_with fail
              (refine wp_region_calm [] [0, 1, 2, 3, 4, 5, 6, 7, 8, 9, 10, 11, 12, 13, 14, 15] 0 (by kernel_rfl) rfl (by kernel_rfl) (by kernel_rfl) (by kernel_rfl) ?_; simp only [pickB, List.filterMap_cons, List.filterMap_nil, List.getElem?_toArray, List.getElem?_cons_zero, List.getElem?_cons_succ]; (repeat (first | ((first | (with_reducible refine quietL_plain rfl (fun K hK => ?_)) | (with_reducible refine quietL_want (by with_unfolding_all rfl) (fun K hK => ?_))); (apply Exists.intro; refine ⟨fun wx hx => ?_, ?_⟩; (· (have hcx := ifs_ex hx); simp [go_sem, *, ↓IntWalk.iteOmega] <;> (first | rfl | exact ⟨rfl, rfl⟩ | (exact calls_B (HJ.out _)))); (simp only [Act.put, List.setIfInBounds_toArray, List.set_cons_zero, List.set_cons_succ]; refine hK _ ?_; clear hK K))) | ((with_reducible refine quietL_skip (by with_unfolding_all rfl) ?_); simp only [Act.put, List.setIfInBounds_toArray, List.set_cons_zero, List.set_cons_succ]))); refine quietL_nil ?_)
              (refine anyB_end (by kernel_rfl) ?_; intro w5 hb5; obtain ⟨hc5, hf5⟩ := ifs_of hb5; have hs5 := hb5.size; (try simp at hs5); simp only [Calm]; go_wp2_with fail)
              go_roundw
              case rel => exact ⟨k + 1, by omega, by go_num, by rw [HS2.out, HH'.out, Bool.or_false], by rw [HS1.out, mStep, HH'.out]; exact BK.out.kept bl_, BY'.out.kept bl_, bl_⟩
              case measure => simp [intOf]; omega
        · obtain rfl : k = n1 := by omega
          have HT : Hid (y.w.take k = y.w) := by show _ = _; rw [List.take_of_length_le (by rw [HL1.out]; exact Nat.le_refl _)]
          have HG : Hid (mMore all m y.w = true → nFalse (mPass all m y.w) < nFalse m) := by
            intro h
            exact mPass_lt HE.out y.w (fun x h => h) HM.out.len h
          have HN : Hid (mMore all m y.w = false → mPass all m y.w = m) := fun h => (no_more y.w h).1
          have HP := Lib.hid (HM.out.pass HE.out HI.out y.w (fun x h => h))
          rw [HT.out] at BK ⊢
          have HO2 : Hid (offs wr (w.heap.size + 1) n0 = nFalse (mPass all m y.w)) := by show _ = _; exact offs_eq BK.out (by rw [HP.out.len, HL0.out])
          clear hlt hk
          go_wp2_with fail
          refine ⟨⟨mPass all m y.w, mMore all m y.w, rfl, BK.out, HP.out, fun h => by rw [HN.out h]; exact h, BY'.out, hb⟩, ?_⟩
          rw [HO2.out, HOF.out]
          cases hmm : mMore all m y.w with
          | true => have := HG.out hmm; simp; omega
          | false => rw [HN.out hmm]; simp
    | false =>
      have HD := Lib.hid (hM.done HE.out HI.out (hq rfl))
      have BM := Lib.hid bm
      clear hM hq bm HM0 HZS hcs HOF
      go_wp2_with fail
      go_loopw [11, 12] (fun v i wx => ∃ k : Nat, k ≤ n0 ∧ i = .int .i64 k ∧ wx.ownsRow w.heap.size 3 1 v (those k (mrk m)).length ((those k (mrk m)).map (.int .i64)) ∧ Blk wx (w.heap.size + 1) 4 (bls m) ∧ Below w.heap.size w wx) (fun _ i _ => n0 - (intOf i).toNat)
      case atStart => exact ⟨0, by omega, rfl, World.ownsRow_nil _ _ _ _, BM.out, hb⟩
      case round =>
        clear cY hb BM
        obtain ⟨k, hk, rfl, hO, bm, hb⟩ := hrel
        have HO := Lib.hid hO
        have BM := Lib.hid bm
        have hsx := hb.size
        have cm := bm.cell
        have fm := bm.frozen
        have lm := bm.lt
        clear hO bm
        by_cases hlt : k < n0
        · have hg := bls_get m k (by rw [hlm.out, HL0.out]; exact hlt)
          have Hs := Lib.hid (those_succ k (mrk m))
          have hl := those_len k (mrk m)
          cases hq : mrk m (k : Int) with
          | true =>
            rw [hq] at hg Hs
            clear hq
            go_wp2_with (at_builtin; refine wpList_app 29 3 1 8 elemInt rfl (.tmp 67) (.tmp 69) rfl w.heap.size _ (those k (mrk m)).length _ rfl HO.out 1 rfl rfl ?h1 (by decide) ?h3 (by omega) (by omega) ?_)
            case h1 => rfl
            case h3 => unfold maxLen; omega
            intro g' cap' w' hown' hb' hk' hs'
            have bm' := hk' _ _ _ BM.out (row_own_neW HO.out BM.out (by decide))
            have BM' := Lib.hid bm'
            clear bm' hk'
            go_wp2
            go_roundw
            case rel => exact ⟨k + 1, by omega, by go_num, by rw [Hs.out]; simpa using hown', BM'.out, hb.trans hb'⟩
            case measure => simp [intOf]; omega
          | false =>
            rw [hq] at hg Hs
            clear hq
            go_wp2
            go_roundw
            case rel => exact ⟨k + 1, by omega, by go_num, by rw [Hs.out]; simpa using HO.out, BM.out, hb⟩
            case measure => simp [intOf]; omega
        · obtain rfl : k = n0 := by omega
          obtain ⟨A', cap', rfl, _⟩ := own_form HO.out
          have HE2 : Hid (those k (mrk m) = y.isl all s) := by
            have := HD.out
            rw [HL0.out] at this
            show _ = _
            rw [those, this, Yd.isl, HL0.out]
          go_wp2
          go_ret
          rw [← HE2.out]
          exact ⟨A', cap', rfl, HO.out, hb⟩
end Go.Proofs.YtphlojgmfkgeiaaGreatDoor
/- Reference: what sections are; what is short, safe, sound. -/
namespace Go.Proofs.YtphlojgmfkgeiaaGreatDoor
open Go.RowKit Go.Sort Go.Shelf
set_option linter.unusedSimpArgs false
set_option linter.unusedVariables false
attribute [local go_sem] cell_if frozen_if grow_cell
theorem any_take {α : Type} (p : α → Bool) (l : List α) (k : Nat) (h : k < l.length) : (l.take (k + 1)).any p = ((l.take k).any p || p l[k]) := by
  rw [List.take_succ_eq_append_getElem h, List.any_append]; simp
theorem any_yes {α : Type} {p : α → Bool} {l : List α} {k : Nat} (h : k < l.length) (hp : p l[k] = true) : l.any p = true := by
  rw [List.any_eq_true]
  exact ⟨l[k], List.getElem_mem h, hp⟩
set_option maxRecDepth 100000 in
set_option maxHeartbeats 1000000 in
theorem rhasSource_any (B : Nat) (A0 A1 A2 : Option Addr) (n0 n1 n2 c0 c1 c2 : Nat) (y : Yd) (w : World) (hY : YdAt w B A0 A1 A2 n0 n1 n2 y) (hB : B ≤ w.heap.size) (hP : Parts y) (A : Option Addr) (n c : Nat) (l : List Int) (hr : Reads w w.heap.size 1 A n (l.map (.int .i64))) (hn : n ≤ 1000) (hl : ∀ i ∈ l, i ∈ rng y.s.length) :
    Calls Tryz.prog 163 #[.agg #[.slice A0 n0 c0, .slice A1 n1 c1, .slice A2 n2 c2], .slice A n c] w fun e w' => e = .returned (.bool (fedB y l)) ∧ Below w.heap.size w w' := by
  obtain ⟨hl0, ha0⟩ := sec_at hY.hs
  obtain ⟨hll, hla⟩ := int_at hr
  have HA0 := Lib.hid ha0
  have HLA := Lib.hid hla
  have HL0 := Lib.hid hl0
  have HLL := Lib.hid hll
  have HIn := Lib.hid hl
  have h8 := hP.n8
  clear ha0 hla hl0 hll hl hY hP hr
  go_enter Tryz.func163, Tryz.ntmps163
  go_wp2_with fail
  go_loopw [5] (fun i wr => ∃ k : Nat, k ≤ n ∧ i = .int .i64 k ∧ Hid ((l.take k).any (fun i => srcAt y.s i) = false) ∧ Below w.heap.size w wr ∧ Blk wr w.heap.size 26 #[.slice A0 n0 c0, .slice A1 n1 c1, .slice A2 n2 c2]) (fun i _ => n - (intOf i).toNat)
  case atStart => exact ⟨0, by omega, rfl, Lib.hid rfl, bl_, bk_⟩
  case round =>
    obtain ⟨k, hk, rfl, hq, hb, bY⟩ := hrel
    have hsr := hb.size
    have cY := bY.cell
    have lY := bY.lt
    have BY := Lib.hid bY
    clear bY
    by_cases hlt : k < n
    · have hkl : k < l.length := by rw [HLL.out]; exact hlt
      obtain ⟨b, o, eA, hbb, z0⟩ := HLA.out k hkl
      have kb : ∀ b i, b < w.heap.size → wr.cell? ⟨b, i, none⟩ = w.cell? ⟨b, i, none⟩ := fun b i h => hb.cell (p := ⟨b, i, none⟩) h
      have HT := Lib.hid (any_take (fun i => srcAt y.s i) l k hkl)
      have HN := Lib.hid (any_yes (p := fun i => srcAt y.s i) hkl)
      have hin := mem_rng.1 (HIn.out l[k] (List.getElem_mem hkl))
      rw [← kb b _ (by omega)] at z0
      subst eA
      generalize l[k] = z at *
      obtain ⟨j, rfl⟩ := Int.eq_ofNat_of_zero_le hin.1
      have hj : j < y.s.length := by omega
      obtain ⟨b2, o2, rfl, hbb2, y0, y1⟩ := HA0.out j hj
      rw [← kb b2 _ (by omega)] at y0 y1
      have HSr := Lib.hid (srcAt_get hj)
      generalize y.s[j].src = q at *
      clear kb y0
      have hjn : (j : Int) < (n0 : Int) := by have := HL0.out; omega
      have hbw : b < wr.heap.size := by omega
      have hbw2 : b2 < wr.heap.size := by omega
      cases q with
      | true =>
        have HR : Hid (fedB y l = true) := by show _ = _; exact HN.out HSr.out
        go_wp2_with fail
        (refine wp_region_calm [] [0, 1, 2, 3, 4, 5, 6, 7, 8] 0 (by kernel_rfl) rfl (by kernel_rfl) (by kernel_rfl) (by kernel_rfl) ?_; simp only [pickB, List.filterMap_cons, List.filterMap_nil, List.getElem?_toArray, List.getElem?_cons_zero, List.getElem?_cons_succ]; (repeat (first | ((first | (with_reducible refine quietL_plain rfl (fun K hK => ?_)) | (with_reducible refine quietL_want (by with_unfolding_all rfl) (fun K hK => ?_))); (apply Exists.intro; refine ⟨fun wx hx => ?_, ?_⟩; (· (have hcx := ifs_ex hx); simp [go_sem, *, ↓IntWalk.iteOmega] <;> (first | rfl | exact ⟨rfl, rfl⟩ | fail)); (simp only [Act.put, List.setIfInBounds_toArray, List.set_cons_zero, List.set_cons_succ]; refine hK _ ?_; clear hK K))) | ((with_reducible refine quietL_skip (by with_unfolding_all rfl) ?_); simp only [Act.put, List.setIfInBounds_toArray, List.set_cons_zero, List.set_cons_succ]))); refine quietL_nil ?_)
        (refine anyB_end (by kernel_rfl) ?_; intro w5 hb5; obtain ⟨hc5, hf5⟩ := ifs_of hb5; have hs5 := hb5.size; (try simp at hs5); simp only [Calm]; go_wp2_with fail)
        go_ret
        exact ⟨by rw [HR.out]; rfl, bl_⟩
      | false =>
        go_wp2_with fail
        (refine wp_region_calm [] [0, 1, 2, 3, 4, 5, 6, 7, 8] 0 (by kernel_rfl) rfl (by kernel_rfl) (by kernel_rfl) (by kernel_rfl) ?_; simp only [pickB, List.filterMap_cons, List.filterMap_nil, List.getElem?_toArray, List.getElem?_cons_zero, List.getElem?_cons_succ]; (repeat (first | ((first | (with_reducible refine quietL_plain rfl (fun K hK => ?_)) | (with_reducible refine quietL_want (by with_unfolding_all rfl) (fun K hK => ?_))); (apply Exists.intro; refine ⟨fun wx hx => ?_, ?_⟩; (· (have hcx := ifs_ex hx); simp [go_sem, *, ↓IntWalk.iteOmega] <;> (first | rfl | exact ⟨rfl, rfl⟩ | fail)); (simp only [Act.put, List.setIfInBounds_toArray, List.set_cons_zero, List.set_cons_succ]; refine hK _ ?_; clear hK K))) | ((with_reducible refine quietL_skip (by with_unfolding_all rfl) ?_); simp only [Act.put, List.setIfInBounds_toArray, List.set_cons_zero, List.set_cons_succ]))); refine quietL_nil ?_)
        (refine anyB_end (by kernel_rfl) ?_; intro w5 hb5; obtain ⟨hc5, hf5⟩ := ifs_of hb5; have hs5 := hb5.size; (try simp at hs5); simp only [Calm]; go_wp2_with fail)
        go_roundw
        case rel => exact ⟨k + 1, by omega, by go_num, Lib.hid (by rw [HT.out, hq.out, HSr.out]; rfl), bl_, BY.out.kept bl_⟩
        case measure => simp [intOf]; omega
    · obtain rfl : k = n := by omega
      have HR : Hid (fedB y l = false) := by
        have := hq.out
        rw [List.take_of_length_le (by rw [HLL.out]; exact Nat.le_refl _)] at this
        exact Lib.hid this
      clear hq
      go_wp2_with fail
      go_ret
      exact ⟨by rw [HR.out]; rfl, bl_⟩
set_option maxRecDepth 100000 in
set_option maxHeartbeats 1000000 in
theorem rhasEarth_any (B : Nat) (A0 A1 A2 : Option Addr) (n0 n1 n2 c0 c1 c2 : Nat) (y : Yd) (w : World) (hY : YdAt w B A0 A1 A2 n0 n1 n2 y) (hB : B ≤ w.heap.size) (hP : Parts y) (A : Option Addr) (n c : Nat) (l : List Int) (hr : Reads w w.heap.size 1 A n (l.map (.int .i64))) (hn : n ≤ 1000) :
    Calls Tryz.prog 164 #[.agg #[.slice A0 n0 c0, .slice A1 n1 c1, .slice A2 n2 c2], .slice A n c] w fun e w' => e = .returned (.bool (y.w.any (earthHit l))) ∧ Below w.heap.size w w' := by
  obtain ⟨hl1, ha1⟩ := sw_at hY.hw
  have HA1 := Lib.hid ha1
  have HL1 := Lib.hid hl1
  have h8 := hP.w8
  have HC := Lib.hid (fun W (hW : Below w.heap.size w W) z => HasInt_any w.heap.size A n c l z W (hr.below hW) (by unfold maxLen; omega))
  clear ha1 hl1 hY hP hr
  go_enter Tryz.func164, Tryz.ntmps164
  go_wp2_with fail
  go_loopw [5] (fun i wr => ∃ k : Nat, k ≤ n1 ∧ i = .int .i64 k ∧ Hid ((y.w.take k).any (earthHit l) = false) ∧ Below w.heap.size w wr ∧ Blk wr w.heap.size 26 #[.slice A0 n0 c0, .slice A1 n1 c1, .slice A2 n2 c2]) (fun i _ => n1 - (intOf i).toNat)
  case atStart => exact ⟨0, by omega, rfl, Lib.hid rfl, bl_, bk_⟩
  case round =>
    obtain ⟨k, hk, rfl, hq, hb, bY⟩ := hrel
    have hsr := hb.size
    have cY := bY.cell
    have lY := bY.lt
    have BY := Lib.hid bY
    clear bY
    by_cases hlt : k < n1
    · have hkl : k < y.w.length := by rw [HL1.out]; exact hlt
      obtain ⟨b, o, eA, hbb, z0, z1, z2, z3, z4⟩ := HA1.out k hkl
      have kb : ∀ i, wr.cell? ⟨b, i, none⟩ = w.cell? ⟨b, i, none⟩ := fun i => hb.cell (p := ⟨b, i, none⟩) (by simp; omega)
      rw [← kb] at z0 z1 z2 z3 z4
      clear kb
      subst eA
      have HT := Lib.hid (any_take (earthHit l) y.w k hkl)
      have HN := Lib.hid (any_yes (p := earthHit l) hkl)
      generalize y.w[k] = x at *
      obtain ⟨xn, xk, xa, xb, xc⟩ := x
      dsimp only at z0 z1 z2 z3 z4
      have HC' := Lib.hid (fun W hW => HC.out W hW xa)
      have HE : Hid (earthHit l ⟨xn, xk, xa, xb, xc⟩ = ((xk.toList == [101, 97, 114, 116, 104]) && xc && hasI l xa)) := Lib.hid rfl
      generalize earthHit l ⟨xn, xk, xa, xb, xc⟩ = eh at *
      generalize hasI l xa = hq' at *
      cases h0 : (xk.toList == [101, 97, 114, 116, 104]) with
      | false =>
        have HF : Hid (eh = false) := by show _ = _; rw [HE.out, h0]; rfl
        go_wp2_with fail
        go_roundw
        case rel => exact ⟨k + 1, by omega, by go_num, Lib.hid (by rw [HT.out, hq.out, HF.out]; rfl), bl_, BY.out.kept bl_⟩
        case measure => simp [intOf]; omega
      | true =>
        cases xc with
        | false =>
          have HF : Hid (eh = false) := by show _ = _; rw [HE.out, h0]; rfl
          go_wp2_with fail
          go_roundw
          case rel => exact ⟨k + 1, by omega, by go_num, Lib.hid (by rw [HT.out, hq.out, HF.out]; rfl), bl_, BY.out.kept bl_⟩
          case measure => simp [intOf]; omega
        | true =>
          cases hq' with
          | false =>
            have HF : Hid (eh = false) := by show _ = _; rw [HE.out, h0]; rfl
            go_wp2_with (go_at_call 40; refine (HC'.out _ bl_).mono ?_; rintro e w1 ⟨rfl, rfl⟩)
            go_roundw
            case rel => exact ⟨k + 1, by omega, by go_num, Lib.hid (by rw [HT.out, hq.out, HF.out]; rfl), bl_, BY.out.kept bl_⟩
            case measure => simp [intOf]; omega
          | true =>
            have HR : Hid (y.w.any (earthHit l) = true) := by show _ = _; exact HN.out (by rw [HE.out, h0]; rfl)
            go_wp2_with (go_at_call 40; refine (HC'.out _ bl_).mono ?_; rintro e w1 ⟨rfl, rfl⟩)
            go_ret
            exact ⟨by rw [HR.out]; rfl, bl_⟩
    · obtain rfl : k = n1 := by omega
      have HR : Hid (y.w.any (earthHit l) = false) := by
        have := hq.out
        rw [List.take_of_length_le (by rw [HL1.out]; exact Nat.le_refl _)] at this
        exact Lib.hid this
      clear hq
      go_wp2_with fail
      go_ret
      exact ⟨by rw [HR.out]; rfl, bl_⟩
end Go.Proofs.YtphlojgmfkgeiaaGreatDoor
/- Reference: energized, earthed, separated, secured; short, safe, sound. -/
namespace Go.Proofs.YtphlojgmfkgeiaaGreatDoor
open Go.RowKit Go.Sort Go.Shelf
set_option linter.unusedSimpArgs false
set_option linter.unusedVariables false
attribute [local go_sem] cell_if frozen_if grow_cell
theorem Ex.belowW {w w' : World} (h : Ex [] w w') : Below w.heap.size w w' := ⟨h.os, h.tape, h.output, h.size, fun k hk => h.block k hk (by simp)⟩
set_option maxRecDepth 100000 in
theorem IsEnergized_any (B : Nat) (A0 A1 A2 : Option Addr) (n0 n1 n2 c0 c1 c2 : Nat) (y : Yd) (w : World) (hY : YdAt w B A0 A1 A2 n0 n1 n2 y) (hB : B ≤ w.heap.size) (hP : Parts y) (i : Int) (hi : i ∈ rng y.s.length) :
    Calls Tryz.prog 103 #[.agg #[.slice A0 n0 c0, .slice A1 n1 c1, .slice A2 n2 c2], .int .i64 i] w fun e w' => e = .returned (.bool (energB y i)) ∧ Below w.heap.size w w' := by
  have hl1 := (sec_at hY.hs).1
  have hl2 := (sw_at hY.hw).1
  have h8 := hP.n8
  have h8' := hP.w8
  have hlen := isl_len (all := false) hP.ends hi
  have hin : Hid (∀ z ∈ y.isl false i, z ∈ rng y.s.length) := fun z hz => isl_in hP.ends hi hz
  have HLn : Hid ((y.isl false i).length ≤ y.s.length) := hlen
  have HY := Lib.hid hY
  have HP := Lib.hid hP
  have HI := Lib.hid hi
  have HL1 := Lib.hid hl1
  have HL2 := Lib.hid hl2
  clear hY hP hi hl1 hl2 hlen
  skip
  go_enter Tryz.func103, Tryz.ntmps103
  go_wp2_with fail
  (refine wp_region_calm [] [0, 1, 2] 3 (by kernel_rfl) rfl (by kernel_rfl) (by kernel_rfl) (by kernel_rfl) ?_; simp only [pickB, List.filterMap_cons, List.filterMap_nil, List.getElem?_toArray, List.getElem?_cons_zero, List.getElem?_cons_succ]; (repeat ((with_reducible refine quietL_plain rfl (fun K hK => ?_)); (apply Exists.intro; refine ⟨fun wx hx => ?_, ?_⟩; (· (have hcx := ifs_ex hx); simp [go_sem, *, ↓IntWalk.iteOmega] <;> (first | rfl | exact ⟨rfl, rfl⟩ | fail)); (simp only [Act.put, List.setIfInBounds_toArray, List.set_cons_zero, List.set_cons_succ]; refine hK _ ?_; clear hK K)))); refine quietL_nil ?_)
  (refine anyB_one (i := 3) (by kernel_rfl) rfl rfl ?_; intro wa hba K hK; obtain ⟨hca, hfa⟩ := ifs_of hba; have hsa := hba.size; (try simp at hsa); go_wp2_with fail)
  refine ((rIsland_any B A0 A1 A2 n0 n1 n2 c0 c1 c2 y i false _ (HY.out.below bl_) (by omega) HP.out.ends HI.out (by omega) (by have := HL2.out; omega)).mono fun _ _ h => h.res).mono ?_
  (rintro e wb ⟨Ab, capb, rfl, hrb, hbb⟩; have hsb := hbb.size; have HRb := Lib.hid hrb; clear hrb; (try simp at hsb))
  (go_wp2; refine ⟨xs_, ?_⟩)
  (refine anyB_one (i := 4) (by kernel_rfl) rfl rfl ?_; intro wc hbc K hK; obtain ⟨hcc, hfc⟩ := ifs_of hbc; have hsc := hbc.size; (try simp at hsc); go_wp2_with fail)
  refine (rhasSource_any B A0 A1 A2 n0 n1 n2 c0 c1 c2 y _ (HY.out.below bl_) (by omega) HP.out Ab _ capb (y.isl false i) ((HRb.out.below (by assumption)).more (by assumption)) (by have := HLn.out; omega) hin.out).mono ?_
  (rintro e wd ⟨rfl, hbd⟩; have hsd := hbd.size; (try simp at hsd))
  (go_wp2; refine ⟨xs_, ?_⟩)
  (refine anyB_one (i := 5) (by kernel_rfl) rfl rfl ?_; intro we hbe K hK; obtain ⟨hce, hfe⟩ := ifs_of hbe; have hse := hbe.size; (try simp at hse); go_wp2; refine ⟨xs_, ?_⟩)
  skip
  (refine anyB_end (by kernel_rfl) ?_; intro wf hbf; obtain ⟨hcf, hff⟩ := ifs_of hbf; have hsf := hbf.size; (try simp at hsf); simp only [Calm]; go_wp2_with fail)
  go_ret
  exact ⟨rfl, bl_⟩
set_option maxRecDepth 100000 in
theorem IsSeparated_any (B : Nat) (A0 A1 A2 : Option Addr) (n0 n1 n2 c0 c1 c2 : Nat) (y : Yd) (w : World) (hY : YdAt w B A0 A1 A2 n0 n1 n2 y) (hB : B ≤ w.heap.size) (hP : Parts y) (i : Int) (hi : i ∈ rng y.s.length) :
    Calls Tryz.prog 105 #[.agg #[.slice A0 n0 c0, .slice A1 n1 c1, .slice A2 n2 c2], .int .i64 i] w fun e w' => e = .returned (.bool (sepB y i)) ∧ Below w.heap.size w w' := by
  have hl1 := (sec_at hY.hs).1
  have hl2 := (sw_at hY.hw).1
  have h8 := hP.n8
  have h8' := hP.w8
  have hlen := isl_len (all := true) hP.ends hi
  have hin : Hid (∀ z ∈ y.isl true i, z ∈ rng y.s.length) := fun z hz => isl_in hP.ends hi hz
  have HLn : Hid ((y.isl true i).length ≤ y.s.length) := hlen
  have HY := Lib.hid hY
  have HP := Lib.hid hP
  have HI := Lib.hid hi
  have HL1 := Lib.hid hl1
  have HL2 := Lib.hid hl2
  clear hY hP hi hl1 hl2 hlen
  unfold sepB
  go_enter Tryz.func105, Tryz.ntmps105
  go_wp2_with fail
  (refine wp_region_calm [] [0, 1, 2] 4 (by kernel_rfl) rfl (by kernel_rfl) (by kernel_rfl) (by kernel_rfl) ?_; simp only [pickB, List.filterMap_cons, List.filterMap_nil, List.getElem?_toArray, List.getElem?_cons_zero, List.getElem?_cons_succ]; (repeat ((with_reducible refine quietL_plain rfl (fun K hK => ?_)); (apply Exists.intro; refine ⟨fun wx hx => ?_, ?_⟩; (· (have hcx := ifs_ex hx); simp [go_sem, *, ↓IntWalk.iteOmega] <;> (first | rfl | exact ⟨rfl, rfl⟩ | fail)); (simp only [Act.put, List.setIfInBounds_toArray, List.set_cons_zero, List.set_cons_succ]; refine hK _ ?_; clear hK K)))); refine quietL_nil ?_)
  (refine anyB_one (i := 3) (by kernel_rfl) rfl rfl ?_; intro wa hba K hK; obtain ⟨hca, hfa⟩ := ifs_of hba; have hsa := hba.size; (try simp at hsa); go_wp2_with fail)
  refine ((rIsland_any B A0 A1 A2 n0 n1 n2 c0 c1 c2 y i true _ (HY.out.below bl_) (by omega) HP.out.ends HI.out (by omega) (by have := HL2.out; omega)).mono fun _ _ h => h.res).mono ?_
  (rintro e wb ⟨Ab, capb, rfl, hrb, hbb⟩; have hsb := hbb.size; have HRb := Lib.hid hrb; clear hrb; (try simp at hsb))
  (go_wp2; refine ⟨xs_, ?_⟩)
  (refine anyB_one (i := 4) (by kernel_rfl) rfl rfl ?_; intro wc hbc K hK; obtain ⟨hcc, hfc⟩ := ifs_of hbc; have hsc := hbc.size; (try simp at hsc); go_wp2_with fail)
  refine (rhasSource_any B A0 A1 A2 n0 n1 n2 c0 c1 c2 y _ (HY.out.below bl_) (by omega) HP.out Ab _ capb (y.isl true i) ((HRb.out.below (by assumption)).more (by assumption)) (by have := HLn.out; omega) hin.out).mono ?_
  (rintro e wd ⟨rfl, hbd⟩; have hsd := hbd.size; (try simp at hsd))
  (go_wp2; refine ⟨xs_, ?_⟩)
  (refine anyB_one (i := 5) (by kernel_rfl) rfl rfl ?_; intro we hbe K hK; obtain ⟨hce, hfe⟩ := ifs_of hbe; have hse := hbe.size; (try simp at hse); go_wp2; refine ⟨xs_, ?_⟩)
  (refine anyB_one (i := 6) (by kernel_rfl) rfl rfl ?_; intro wg hbg K hK; (obtain ⟨hcg, hfg⟩ := ifs_of hbg; have hsg := hbg.size; (try simp at hsg)); go_wp2; refine ⟨xs_, ?_⟩)
  (refine anyB_end (by kernel_rfl) ?_; intro wf hbf; obtain ⟨hcf, hff⟩ := ifs_of hbf; have hsf := hbf.size; (try simp at hsf); simp only [Calm]; go_wp2_with fail)
  go_ret
  exact ⟨rfl, bl_⟩
set_option maxRecDepth 100000 in
theorem IsEarthed_any (B : Nat) (A0 A1 A2 : Option Addr) (n0 n1 n2 c0 c1 c2 : Nat) (y : Yd) (w : World) (hY : YdAt w B A0 A1 A2 n0 n1 n2 y) (hB : B ≤ w.heap.size) (hP : Parts y) (i : Int) (hi : i ∈ rng y.s.length) :
    Calls Tryz.prog 104 #[.agg #[.slice A0 n0 c0, .slice A1 n1 c1, .slice A2 n2 c2], .int .i64 i] w fun e w' => e = .returned (.bool (earthedB y i)) ∧ Below w.heap.size w w' := by
  have hl1 := (sec_at hY.hs).1
  have hl2 := (sw_at hY.hw).1
  have h8 := hP.n8
  have h8' := hP.w8
  have hlen := isl_len (all := false) hP.ends hi
  have hin : Hid (∀ z ∈ y.isl false i, z ∈ rng y.s.length) := fun z hz => isl_in hP.ends hi hz
  have HLn : Hid ((y.isl false i).length ≤ y.s.length) := hlen
  have HY := Lib.hid hY
  have HP := Lib.hid hP
  have HI := Lib.hid hi
  have HL1 := Lib.hid hl1
  have HL2 := Lib.hid hl2
  clear hY hP hi hl1 hl2 hlen
  go_enter Tryz.func104, Tryz.ntmps104
  go_wp2_with fail
  (refine wp_region_calm [] [0, 1, 2] 3 (by kernel_rfl) rfl (by kernel_rfl) (by kernel_rfl) (by kernel_rfl) ?_; simp only [pickB, List.filterMap_cons, List.filterMap_nil, List.getElem?_toArray, List.getElem?_cons_zero, List.getElem?_cons_succ]; (repeat ((with_reducible refine quietL_plain rfl (fun K hK => ?_)); (apply Exists.intro; refine ⟨fun wx hx => ?_, ?_⟩; (· (have hcx := ifs_ex hx); simp [go_sem, *, ↓IntWalk.iteOmega] <;> (first | rfl | exact ⟨rfl, rfl⟩ | fail)); (simp only [Act.put, List.setIfInBounds_toArray, List.set_cons_zero, List.set_cons_succ]; refine hK _ ?_; clear hK K)))); refine quietL_nil ?_)
  (refine anyB_one (i := 3) (by kernel_rfl) rfl rfl ?_; intro wa hba K hK; obtain ⟨hca, hfa⟩ := ifs_of hba; have hsa := hba.size; (try simp at hsa); go_wp2_with fail)
  refine ((rIsland_any B A0 A1 A2 n0 n1 n2 c0 c1 c2 y i false _ (HY.out.below bl_) (by omega) HP.out.ends HI.out (by omega) (by have := HL2.out; omega)).mono fun _ _ h => h.res).mono ?_
  (rintro e wb ⟨Ab, capb, rfl, hrb, hbb⟩; have hsb := hbb.size; have HRb := Lib.hid hrb; clear hrb; (try simp at hsb))
  (go_wp2; refine ⟨xs_, ?_⟩)
  (refine anyB_one (i := 4) (by kernel_rfl) rfl rfl ?_; intro wc hbc K hK; obtain ⟨hcc, hfc⟩ := ifs_of hbc; have hsc := hbc.size; (try simp at hsc); go_wp2_with fail)
  refine (rhasEarth_any B A0 A1 A2 n0 n1 n2 c0 c1 c2 y _ (HY.out.below bl_) (by omega) HP.out Ab _ capb (y.isl false i) ((HRb.out.below (by assumption)).more (by assumption)) (by have := HLn.out; omega)).mono ?_
  (rintro e wd ⟨rfl, hbd⟩; have hsd := hbd.size; (try simp at hsd))
  (go_wp2; refine ⟨xs_, ?_⟩)
  (refine anyB_one (i := 5) (by kernel_rfl) rfl rfl ?_; intro we hbe K hK; obtain ⟨hce, hfe⟩ := ifs_of hbe; have hse := hbe.size; (try simp at hse); go_wp2; refine ⟨xs_, ?_⟩)
  (refine anyB_end (by kernel_rfl) ?_; intro wf hbf; obtain ⟨hcf, hff⟩ := ifs_of hbf; have hsf := hbf.size; (try simp at hsf); simp only [Calm]; go_wp2_with fail)
  go_ret
  exact ⟨rfl, bl_⟩
theorem IsSecured_any (B : Nat) (A0 A1 A2 : Option Addr) (n0 n1 n2 c0 c1 c2 : Nat) (y : Yd) (w : World) (hY : YdAt w B A0 A1 A2 n0 n1 n2 y) (hB : B ≤ w.heap.size) (hP : Parts y) (i : Int) (hi : i ∈ rng y.s.length) :
    Calls Tryz.prog 106 #[.agg #[.slice A0 n0 c0, .slice A1 n1 c1, .slice A2 n2 c2], .int .i64 i] w fun e w' => e = .returned (.bool (secB y i)) ∧ Below w.heap.size w w' := by
  have h1 := Lib.hid (fun W hW hBW => IsSeparated_any B A0 A1 A2 n0 n1 n2 c0 c1 c2 y W (hY.below hW) hBW hP i hi)
  have h2 := Lib.hid (fun W hW hBW => IsEarthed_any B A0 A1 A2 n0 n1 n2 c0 c1 c2 y W (hY.below hW) hBW hP i hi)
  unfold secB
  generalize sepB y i = p at *
  generalize earthedB y i = q at *
  clear hY hP hi
  cases p
  all_goals
    go_enter Tryz.func106, Tryz.ntmps106
    go_wp2_with (first | (go_at_call 105; refine (h1.out _ bl_ (by simp; omega)).mono ?_; (rintro e w1 ⟨rfl, hb1⟩; have hs1 := hb1.size; (try simp at hs1)); obtain ⟨hc1, hf1⟩ := ifs_of hb1; have hs1 := hb1.size; (try simp at hs1)) | (go_at_call 104; refine (h2.out _ bl_ (by omega)).mono ?_; (rintro e w2 ⟨rfl, hb2⟩; have hs2 := hb2.size; (try simp at hs2))))
    go_ret
    exact ⟨by first | rfl | (simp; done), bl_⟩
theorem rng_take_any (p : Int → Bool) (k : Nat) : (rng (k + 1)).any p = ((rng k).any p || p (k : Int)) := by
  rw [rng_succ, List.any_append]; simp
theorem rng_yes {p : Int → Bool} {n k : Nat} (h : k < n) (hp : p (k : Int) = true) : (rng n).any p = true := by
  rw [List.any_eq_true]
  exact ⟨(k : Int), mem_rng.2 ⟨by omega, by omega⟩, hp⟩
set_option maxRecDepth 100000 in
set_option maxHeartbeats 1000000 in
theorem HasShort_any (B : Nat) (A0 A1 A2 : Option Addr) (n0 n1 n2 c0 c1 c2 : Nat) (y : Yd) (w : World) (hY : YdAt w B A0 A1 A2 n0 n1 n2 y) (hB : B ≤ w.heap.size) (hP : Parts y) : Calls Tryz.prog 125 #[.agg #[.slice A0 n0 c0, .slice A1 n1 c1, .slice A2 n2 c2]] w fun e w' => e = .returned (.bool (shortB y)) ∧ Below w.heap.size w w' := by
  have hl0 := (sec_at hY.hs).1
  have HE := Lib.hid (fun W (hW : Below w.heap.size w W) i hi => IsEnergized_any B A0 A1 A2 n0 n1 n2 c0 c1 c2 y W (hY.below (hW.mono hB)) (by have := hW.size; omega) hP i hi)
  have HG := Lib.hid (fun W (hW : Below w.heap.size w W) i hi => IsEarthed_any B A0 A1 A2 n0 n1 n2 c0 c1 c2 y W (hY.below (hW.mono hB)) (by have := hW.size; omega) hP i hi)
  have h8 := hP.n8
  have hn0 : n0 ≤ 8 := hl0 ▸ h8
  have HL0 := Lib.hid hl0
  clear hY hP hl0
  go_enter Tryz.func125, Tryz.ntmps125
  go_wp2_with fail
  go_loopw [3] (fun i wr => ∃ k : Nat, k ≤ n0 ∧ i = .int .i64 k ∧ Hid ((rng k).any (fun i => energB y i && earthedB y i) = false) ∧ Below w.heap.size w wr ∧ Blk wr w.heap.size 26 #[.slice A0 n0 c0, .slice A1 n1 c1, .slice A2 n2 c2]) (fun i _ => n0 - (intOf i).toNat)
  case atStart => exact ⟨0, by omega, rfl, Lib.hid rfl, bl_, bk_⟩
  case round =>
    obtain ⟨k, hk, rfl, hq, hb, bY⟩ := hrel
    have hsr := hb.size
    have cY := bY.cell
    have lY := bY.lt
    have BY := Lib.hid bY
    clear bY
    by_cases hlt : k < n0
    · have hin : (k : Int) ∈ rng y.s.length := mem_rng.2 ⟨by omega, by have := HL0.out; omega⟩
      have HE' := Lib.hid (fun W hW => HE.out W hW k hin)
      have HG' := Lib.hid (fun W hW => HG.out W hW k hin)
      have HT := Lib.hid (rng_take_any (fun i => energB y i && earthedB y i) k)
      have HN := Lib.hid (fun h => rng_yes (p := fun i => energB y i && earthedB y i) (n := y.s.length) (k := k) (by have := HL0.out; omega) h)
      (try dsimp only at HT HN)
      generalize energB y (k : Int) = p at *
      generalize earthedB y (k : Int) = q at *
      cases p with
      | false =>
        go_wp2_with fail
        refine (HE'.out _ bl_).mono ?_
        (rintro e w1 ⟨rfl, hb1⟩; have hs1 := hb1.size; (try simp at hs1))
        go_wp2_with fail
        go_roundw
        case rel => exact ⟨k + 1, by omega, by go_num, Lib.hid (by rw [HT.out, hq.out]; rfl), bl_, BY.out.kept bl_⟩
        case measure => simp [intOf]; omega
      | true =>
        cases q with
        | false =>
          go_wp2_with fail
          refine (HE'.out _ bl_).mono ?_
          (rintro e w1 ⟨rfl, hb1⟩; have hs1 := hb1.size; (try simp at hs1))
          obtain ⟨hc1, hf1⟩ := ifs_of hb1; have hs1 := hb1.size; (try simp at hs1)
          go_wp2_with fail
          refine (HG'.out _ bl_).mono ?_
          (rintro e w2 ⟨rfl, hb2⟩; have hs2 := hb2.size; (try simp at hs2))
          go_wp2_with fail
          go_roundw
          case rel => exact ⟨k + 1, by omega, by go_num, Lib.hid (by rw [HT.out, hq.out]; rfl), bl_, BY.out.kept bl_⟩
          case measure => simp [intOf]; omega
        | true =>
          have HR : Hid (shortB y = true) := by show _ = _; exact HN.out rfl
          go_wp2_with fail
          refine (HE'.out _ bl_).mono ?_
          (rintro e w1 ⟨rfl, hb1⟩; have hs1 := hb1.size; (try simp at hs1))
          obtain ⟨hc1, hf1⟩ := ifs_of hb1; have hs1 := hb1.size; (try simp at hs1)
          go_wp2_with fail
          refine (HG'.out _ bl_).mono ?_
          (rintro e w2 ⟨rfl, hb2⟩; have hs2 := hb2.size; (try simp at hs2))
          go_wp2_with fail
          go_ret
          exact ⟨by rw [HR.out]; rfl, bl_⟩
    · obtain rfl : k = n0 := by omega
      have HR : Hid (shortB y = false) := by show _ = _; unfold shortB; rw [HL0.out]; exact hq.out
      clear hq
      go_wp2_with fail
      go_ret
      exact ⟨by rw [HR.out]; rfl, bl_⟩
set_option maxRecDepth 100000 in
set_option maxHeartbeats 1000000 in
theorem IsSafe_any (B : Nat) (A0 A1 A2 : Option Addr) (n0 n1 n2 c0 c1 c2 : Nat) (y : Yd) (w : World) (hY : YdAt w B A0 A1 A2 n0 n1 n2 y) (hB : B ≤ w.heap.size) (hP : Parts y) : Calls Tryz.prog 126 #[.agg #[.slice A0 n0 c0, .slice A1 n1 c1, .slice A2 n2 c2]] w fun e w' => e = .returned (.bool (!openB y)) ∧ Below w.heap.size w w' := by
  obtain ⟨hl2, ha2⟩ := pm_at hY.hp
  have HS := Lib.hid (fun W (hW : Below w.heap.size w W) i hi => IsSecured_any B A0 A1 A2 n0 n1 n2 c0 c1 c2 y W (hY.below (hW.mono hB)) (by have := hW.size; omega) hP i hi)
  have h8 := hP.p8
  have hn2 : n2 ≤ 8 := hl2 ▸ h8
  have HL2 := Lib.hid hl2
  have HA2 := Lib.hid ha2
  have HPs := Lib.hid (fun x (hx : x ∈ y.p) => mem_rng.2 (hP.ps x hx))
  clear hY hP hl2 ha2
  go_enter Tryz.func126, Tryz.ntmps126
  go_wp2_with fail
  go_loopw [3] (fun i wr => ∃ k : Nat, k ≤ n2 ∧ i = .int .i64 k ∧ Hid ((y.p.take k).any (fun x => !secB y x.s) = false) ∧ Below w.heap.size w wr ∧ Blk wr w.heap.size 26 #[.slice A0 n0 c0, .slice A1 n1 c1, .slice A2 n2 c2]) (fun i _ => n2 - (intOf i).toNat)
  case atStart => exact ⟨0, by omega, rfl, Lib.hid rfl, bl_, bk_⟩
  case round =>
    obtain ⟨k, hk, rfl, hq, hb, bY⟩ := hrel
    have hsr := hb.size
    have cY := bY.cell
    have lY := bY.lt
    have BY := Lib.hid bY
    clear bY
    by_cases hlt : k < n2
    · have hkl : k < y.p.length := by rw [HL2.out]; exact hlt
      obtain ⟨b, o, eA, hbb, z0, z1⟩ := HA2.out k hkl
      have kb : ∀ i, wr.cell? ⟨b, i, none⟩ = w.cell? ⟨b, i, none⟩ := fun i => hb.cell (p := ⟨b, i, none⟩) (by simp; omega)
      rw [← kb] at z0 z1
      clear kb
      subst eA
      have hbw : b < wr.heap.size := by omega
      have HT := Lib.hid (any_take (fun x : Pm => !secB y x.s) y.p k hkl)
      have HN := Lib.hid (any_yes (p := fun x : Pm => !secB y x.s) hkl)
      have HS' := Lib.hid (fun W hW => HS.out W hW y.p[k].s (HPs.out _ (List.getElem_mem hkl)))
      generalize y.p[k] = x at *
      obtain ⟨xn, xs⟩ := x
      dsimp only at z0 z1 HT HN HS'
      generalize secB y xs = q at *
      cases q with
      | false =>
        have HR : Hid (openB y = true) := by show _ = _; exact HN.out rfl
        go_wp2_with fail
        (refine wp_region_calm [] [0, 1, 2, 3, 4, 5, 6, 7, 8] 0 (by kernel_rfl) rfl (by kernel_rfl) (by kernel_rfl) (by kernel_rfl) ?_; simp only [pickB, List.filterMap_cons, List.filterMap_nil, List.getElem?_toArray, List.getElem?_cons_zero, List.getElem?_cons_succ]; (repeat (first | ((first | (with_reducible refine quietL_plain rfl (fun K hK => ?_)) | (with_reducible refine quietL_want (by with_unfolding_all rfl) (fun K hK => ?_))); (apply Exists.intro; refine ⟨fun wx hx => ?_, ?_⟩; (· (have hcx := ifs_ex hx); simp [go_sem, *, ↓IntWalk.iteOmega] <;> (first | rfl | exact ⟨rfl, rfl⟩ | (have hbx := Ex.belowW hx; exact calls_B (HS'.out _ bl_)))); (simp only [Act.put, List.setIfInBounds_toArray, List.set_cons_zero, List.set_cons_succ]; refine hK _ ?_; clear hK K))) | ((with_reducible refine quietL_skip (by with_unfolding_all rfl) ?_); simp only [Act.put, List.setIfInBounds_toArray, List.set_cons_zero, List.set_cons_succ]))); refine quietL_nil ?_)
        (refine anyB_end (by kernel_rfl) ?_; intro w5 hb5; obtain ⟨hc5, hf5⟩ := ifs_of hb5; have hs5 := hb5.size; (try simp at hs5); simp only [Calm]; go_wp2_with fail)
        go_ret
        exact ⟨by rw [HR.out]; rfl, bl_⟩
      | true =>
        go_wp2_with fail
        (refine wp_region_calm [] [0, 1, 2, 3, 4, 5, 6, 7, 8] 0 (by kernel_rfl) rfl (by kernel_rfl) (by kernel_rfl) (by kernel_rfl) ?_; simp only [pickB, List.filterMap_cons, List.filterMap_nil, List.getElem?_toArray, List.getElem?_cons_zero, List.getElem?_cons_succ]; (repeat (first | ((first | (with_reducible refine quietL_plain rfl (fun K hK => ?_)) | (with_reducible refine quietL_want (by with_unfolding_all rfl) (fun K hK => ?_))); (apply Exists.intro; refine ⟨fun wx hx => ?_, ?_⟩; (· (have hcx := ifs_ex hx); simp [go_sem, *, ↓IntWalk.iteOmega] <;> (first | rfl | exact ⟨rfl, rfl⟩ | (have hbx := Ex.belowW hx; exact calls_B (HS'.out _ bl_)))); (simp only [Act.put, List.setIfInBounds_toArray, List.set_cons_zero, List.set_cons_succ]; refine hK _ ?_; clear hK K))) | ((with_reducible refine quietL_skip (by with_unfolding_all rfl) ?_); simp only [Act.put, List.setIfInBounds_toArray, List.set_cons_zero, List.set_cons_succ]))); refine quietL_nil ?_)
        (refine anyB_end (by kernel_rfl) ?_; intro w5 hb5; obtain ⟨hc5, hf5⟩ := ifs_of hb5; have hs5 := hb5.size; (try simp at hs5); simp only [Calm]; go_wp2_with fail)
        go_roundw
        case rel => exact ⟨k + 1, by omega, by go_num, Lib.hid (by rw [HT.out, hq.out]; rfl), bl_, BY.out.kept bl_⟩
        case measure => simp [intOf]; omega
    · obtain rfl : k = n2 := by omega
      have HR : Hid (openB y = false) := by
        have := hq.out
        rw [List.take_of_length_le (by rw [HL2.out]; exact Nat.le_refl _)] at this
        exact Lib.hid this
      clear hq
      go_wp2_with fail
      go_ret
      exact ⟨by rw [HR.out]; rfl, bl_⟩
theorem Sound_any (B : Nat) (A0 A1 A2 : Option Addr) (n0 n1 n2 c0 c1 c2 : Nat) (y : Yd) (w : World) (hY : YdAt w B A0 A1 A2 n0 n1 n2 y) (hB : B ≤ w.heap.size) (hP : Parts y) : Calls Tryz.prog 49 #[.agg #[.slice A0 n0 c0, .slice A1 n1 c1, .slice A2 n2 c2]] w fun e w' => e = .returned (.bool (soundB y)) ∧ Below w.heap.size w w' := by
  have h1 := Lib.hid (fun W hW hBW => HasShort_any B A0 A1 A2 n0 n1 n2 c0 c1 c2 y W (hY.below hW) hBW hP)
  have h2 := Lib.hid (fun W hW hBW => IsSafe_any B A0 A1 A2 n0 n1 n2 c0 c1 c2 y W (hY.below hW) hBW hP)
  unfold soundB
  generalize shortB y = p at *
  generalize openB y = q at *
  clear hY hP
  cases p
  all_goals
    go_enter Tryz.func49, Tryz.ntmps49
    go_wp2_with (first | (go_at_call 125; refine (h1.out _ bl_ (by simp; omega)).mono ?_; (rintro e w1 ⟨rfl, hb1⟩; have hs1 := hb1.size; (try simp at hs1)); obtain ⟨hc1, hf1⟩ := ifs_of hb1; have hs1 := hb1.size; (try simp at hs1)) | (go_at_call 126; refine (h2.out _ bl_ (by omega)).mono ?_; (rintro e w2 ⟨rfl, hb2⟩; have hs2 := hb2.size; (try simp at hs2))))
    go_ret
    exact ⟨by first | rfl | (simp; done), bl_⟩
end Go.Proofs.YtphlojgmfkgeiaaGreatDoor
/- Reference: the error of a switch. -/
namespace Go.Proofs.YtphlojgmfkgeiaaGreatDoor
open Go.RowKit Go.Sort Go.Shelf
set_option linter.unusedSimpArgs false
set_option linter.unusedVariables false
attribute [local go_sem] cell_if frozen_if grow_cell
theorem findFrom_has (l : List ByteArray) (s : ByteArray) : ∀ k : Nat, decide (0 ≤ findFrom k l s) = hasW l s := by
  induction l with
  | nil => intro k; rfl
  | cons x r ih =>
    intro k
    rw [findFrom_cons, hasW_cons]
    cases h : (x.toList == s.toList) with
    | true => simp
    | false => simpa using ih (k + 1)
theorem find_has (l : List ByteArray) (s : ByteArray) : decide (0 ≤ findI l s) = hasW l s := findFrom_has l s 0
theorem sw_eq (a1 a2 : Int) (k hA hB ea c1 c2 : Bool) : (if firstE [a1, a2, whenE (!k) 13, whenE (!hA) 10] = 0 then (if ea then whenE c1 24 else firstE [whenE (!hB) 10, whenE c2 24]) else firstE [a1, a2, whenE (!k) 13, whenE (!hA) 10]) = firstE [firstE [a1, a2], if k then (if ea then firstE [whenE (!hA) 10, whenE c1 24] else firstE [whenE (!hA || !hB) 10, whenE c2 24]) else 13] := by
  by_cases h1 : a1 = 0
  · by_cases h2 : a2 = 0
    · subst h1; subst h2
      cases k <;> cases hA <;> cases hB <;> cases ea <;> cases c1 <;> cases c2 <;> decide
    · subst h1; simp [firstE, h2]
  · simp [firstE, h1]
set_option maxRecDepth 100000 in
set_option maxHeartbeats 2000000 in
theorem rCheckSwitch_any (B : Nat) (A0 A1 A2 : Option Addr) (n0 n1 n2 c0 c1 c2 : Nat) (y : Yd) (w : World) (hY : YdAt w B A0 A1 A2 n0 n1 n2 y) (hB : B ≤ w.heap.size) (h9 : n1 ≤ 400) (hwn : ∀ x ∈ y.w, x.n.size ≤ maxLen) (i : Nat) (hi : i < y.w.length) :
    Calls Tryz.prog 143 #[.agg #[.slice A0 n0 c0, .slice A1 n1 c1, .slice A2 n2 c2], .int .i64 (i : Int)] w fun e w' => e = .returned (.int .i64 (chkOne ((y.w.map Sw.n).take i) y.w[i].n (swE n0 y.w[i]))) ∧ Below w.heap.size w w' := by
  obtain ⟨hl1, ha1⟩ := sw_at hY.hw
  obtain ⟨b, o, rfl, hbb, z0, z1, z2, z3, z4⟩ := ha1 i hi
  have hin : (i : Int) < (n1 : Int) := by omega
  have HFd := Lib.hid (fun W (hW : Below w.heap.size w W) s => FindSwitch_any B A0 (some ⟨b, o, none⟩) A2 n0 n1 n2 c0 c1 c2 y s i W (hY.below (hW.mono hB)) (by have := hW.size; omega) (by omega) (by unfold maxLen; omega))
  have hns := hwn _ (List.getElem_mem hi)
  have hTk : Hid ((y.w.map Sw.n).take i = (y.w.map Sw.n).take i) := Lib.hid rfl
  clear ha1 hwn
  generalize (y.w.map Sw.n).take i = nms at *
  generalize y.w[i] = x at *
  obtain ⟨xn, xk, xa, xb, xc⟩ := x
  dsimp only at z0 z1 z2 z3 z4 hns
  have HCN := Lib.hid (fun W => CheckName_any xn W hns)
  have HFs := Lib.hid (fun W hW => HFd.out W hW xn)
  have HA := Lib.hid (fun W => has_any A0 (some ⟨b, o, none⟩) A2 n0 n1 n2 c0 c1 c2 xa W)
  have HBs := Lib.hid (fun W => has_any A0 (some ⟨b, o, none⟩) A2 n0 n1 n2 c0 c1 c2 xb W)
  change Hid (∀ W, Calls Tryz.prog 144 _ W fun e w' => e = .returned (.bool (hasN n0 xa)) ∧ _) at HA
  change Hid (∀ W, Calls Tryz.prog 144 _ W fun e w' => e = .returned (.bool (hasN n0 xb)) ∧ _) at HBs
  have HHW := Lib.hid (fun W g (hr : Reads W W.heap.size 1 (some ⟨g, 0, none⟩) 3 (kindsL.map .string)) => HasWord_any W.heap.size (some ⟨g, 0, none⟩) 3 3 kindsL xk W hr (by unfold maxLen; decide))
  rw [hasW_kinds] at HHW
  have HE : Hid (chkOne nms xn (swE n0 ⟨xn, xk, xa, xb, xc⟩) = if firstE [nameE xn, whenE (hasW nms xn) 9, whenE (!kindB xk) 13, whenE (!hasN n0 xa) 10] = 0 then (if xk.toList == earthL then whenE (!(xb == -1)) 24 else firstE [whenE (!hasN n0 xb) 10, whenE (xa == xb) 24]) else firstE [nameE xn, whenE (hasW nms xn) 9, whenE (!kindB xk) 13, whenE (!hasN n0 xa) 10]) := by
    show _ = _
    rw [sw_eq]; rfl
  have HFh := Lib.hid (find_has nms xn)
  rw [HE.out]
  unfold earthL
  clear hY HE HFd hTk
  generalize nameE xn = a1 at *
  generalize findI nms xn = fi at *
  rw [← HFh.out]
  clear HFh
  generalize kindB xk = kq at *
  generalize hasN n0 xa = aq at *
  generalize hasN n0 xb = bq at *
  have HW2 := Lib.hid (fun W => rWhen_any (decide (0 ≤ fi)) 9 W)
  have HW3 := Lib.hid (fun W => rWhen_any (!kq) 13 W)
  have HW4 := Lib.hid (fun W => rWhen_any (!aq) 10 W)
  generalize whenE (decide (0 ≤ fi)) 9 = a2 at *
  generalize whenE (!kq) 13 = a3 at *
  generalize whenE (!aq) 10 = a4 at *
  generalize hee : firstE [a1, a2, a3, a4] = ee at *
  have HEQ := Lib.hid hee
  clear hee
  cases hz : (ee != 0) with
  | true =>
    rw [if_neg (by simpa using hz)]
    go_enter Tryz.func143, Tryz.ntmps143
    go_wp2_with fail
    (refine wp_region_calm [] [0, 1, 2, 3, 4, 5, 6, 7, 8, 9, 11, 12, 16, 17, 18] 10 (by kernel_rfl) rfl (by kernel_rfl) (by kernel_rfl) (by kernel_rfl) ?_; simp only [pickB, List.filterMap_cons, List.filterMap_nil, List.getElem?_toArray, List.getElem?_cons_zero, List.getElem?_cons_succ]; (repeat (first | ((first | (with_reducible refine quietL_plain rfl (fun K hK => ?_)) | (with_reducible refine quietL_want (by with_unfolding_all rfl) (fun K hK => ?_))); (apply Exists.intro; refine ⟨fun wx hx => ?_, ?_⟩; (· (have hcx := ifs_ex hx); simp [go_sem, *, ↓IntWalk.iteOmega] <;> (first | rfl | exact ⟨rfl, rfl⟩ | (have hbx := Ex.belowW hx; have hby : Below w.heap.size w wx := bl_; first | (with_reducible exact calls_B (calls_below (HW2.out _))) | (with_reducible exact calls_B (calls_below (HCN.out _))) | (with_reducible exact calls_B (HFs.out _ (by assumption)))))); (simp only [Act.put, List.setIfInBounds_toArray, List.set_cons_zero, List.set_cons_succ]; refine hK _ ?_; clear hK K))) | ((with_reducible refine quietL_skip (by with_unfolding_all rfl) ?_); simp only [Act.put, List.setIfInBounds_toArray, List.set_cons_zero, List.set_cons_succ]))); refine quietL_nil ?_)
    (refine anyB_one (i := 10) (by kernel_rfl) rfl rfl ?_; intro w2 hb2 K hK; obtain ⟨hc2, hf2⟩ := ifs_of hb2; have hs2 := hb2.size; (try simp at hs2); go_wp2; refine ⟨xs_, ?_⟩)
    (refine anyB_one (i := 13) (by kernel_rfl) rfl rfl ?_; intro w3 hb3 K hK; obtain ⟨hc3, hf3⟩ := ifs_of hb3; have hs3 := hb3.size; (try simp at hs3); go_wp2_with fail)
    refine (HHW.out _ w2.heap.size (((Reads.new (size := 1) w2 #[Value.string ⟨#[98, 114, 101, 97, 107, 101, 114]⟩, .string ⟨#[105, 115, 111, 108, 97, 116, 111, 114]⟩, .string ⟨#[101, 97, 114, 116, 104]⟩] 9 3 rfl : Reads (w2.alloc (.cells #[Value.string ⟨#[98, 114, 101, 97, 107, 101, 114]⟩, .string ⟨#[105, 115, 111, 108, 97, 116, 111, 114]⟩, .string ⟨#[101, 97, 114, 116, 104]⟩] 9)) (w2.heap.size + 1) 1 (some ⟨w2.heap.size, 0, none⟩) 3 (kindsL.map .string)).below (hb3.mono (by simp))).more (by simpa using hs3))).mono ?_
    rintro e w4 ⟨rfl, rfl⟩
    (go_wp2; refine ⟨xs_, ?_⟩)
    (refine anyB_one (i := 14) (by kernel_rfl) rfl rfl ?_; intro w5 hb5 K hK; obtain ⟨hc5, hf5⟩ := ifs_of hb5; have hs5 := hb5.size; (try simp at hs5); go_wp2; refine ⟨xs_, ?_⟩)
    (refine anyB_one (i := 15) (by kernel_rfl) rfl rfl ?_; intro w6 hb6 K hK; obtain ⟨hc6, hf6⟩ := ifs_of hb6; have hs6 := hb6.size; (try simp at hs6); go_wp2_with fail)
    refine (HW3.out _).mono ?_
    rintro e w7 ⟨rfl, rfl⟩
    (go_wp2; refine ⟨xs_, ?_⟩)
    (refine anyB_one (i := 19) (by kernel_rfl) rfl rfl ?_; intro w8 hb8 K hK; obtain ⟨hc8, hf8⟩ := ifs_of hb8; have hs8 := hb8.size; (try simp at hs8); go_wp2_with fail)
    refine (HA.out _).mono ?_
    (rintro e w9 ⟨rfl, hb9⟩; have hs9 := hb9.size; (try simp at hs9))
    obtain ⟨hc9, hf9⟩ := ifs_of hb9; have hs9 := hb9.size; (try simp at hs9)
    (go_wp2; refine ⟨xs_, ?_⟩)
    (refine anyB_one (i := 20) (by kernel_rfl) rfl rfl ?_; intro wa hba K hK; obtain ⟨hca, hfa⟩ := ifs_of hba; have hsa := hba.size; (try simp at hsa); go_wp2; refine ⟨xs_, ?_⟩)
    (refine anyB_one (i := 21) (by kernel_rfl) rfl rfl ?_; intro wb hbb K hK; obtain ⟨hcb, hfb⟩ := ifs_of hbb; have hsb := hbb.size; (try simp at hsb); go_wp2_with fail)
    refine (HW4.out _).mono ?_
    rintro e wc ⟨rfl, rfl⟩
    (go_wp2; refine ⟨xs_, ?_⟩)
    (refine anyB_one (i := 22) (by kernel_rfl) rfl rfl ?_; intro wd hbd K hK; obtain ⟨hcd, hfd⟩ := ifs_of hbd; have hsd := hbd.size; (try simp at hsd); go_wp2; refine ⟨xs_, ?_⟩)
    (refine anyB_one (i := 23) (by kernel_rfl) rfl rfl ?_; intro we hbe K hK; obtain ⟨hce, hfe⟩ := ifs_of hbe; have hse := hbe.size; (try simp at hse); go_wp2_with fail; refine (rFirst_any (wd.heap.size + 1) _ 4 4 [a1, a2, a3, a4] _ ((by simpa using Reads.new (size := 1) wd (([a1, a2, a3, a4]).map (.int .i64)).toArray 3 4 rfl : Reads (wd.alloc (.cells (([a1, a2, a3, a4]).map (.int .i64)).toArray 3)) (wd.heap.size + 1) 1 (some ⟨wd.heap.size, 0, none⟩) 4 (([a1, a2, a3, a4]).map (.int .i64))).below (hbe.mono (by simp))) (by unfold maxLen; decide)).mono ?_; rintro e we' ⟨rfl, rfl⟩; go_wp2; refine ⟨xs_, ?_⟩)
    rw [HEQ.out]
    (refine anyB_one (i := 24) (by kernel_rfl) rfl rfl ?_; intro wf hbf K hK; obtain ⟨hcf, hff⟩ := ifs_of hbf; have hsf := hbf.size; (try simp at hsf); go_wp2; refine ⟨xs_, ?_⟩)
    (refine anyB_end (by kernel_rfl) ?_; intro wg hbg; obtain ⟨hcg, hfg⟩ := ifs_of hbg; have hsg := hbg.size; (try simp at hsg); simp only [Calm]; go_wp2_with fail)
    go_ret
    exact ⟨rfl, bl_⟩
  | false =>
    obtain rfl : ee = 0 := by simpa using hz
    rw [if_pos rfl]
    have HW5 := Lib.hid (fun W => rWhen_any (!(xb == -1)) 24 W)
    have HW6 := Lib.hid (fun W => rWhen_any (!bq) 10 W)
    have HW7 := Lib.hid (fun W => rWhen_any (xa == xb) 24 W)
    generalize whenE (!bq) 10 = b1 at *
    generalize whenE (xa == xb) 24 = b2 at *
    cases h0 : (xk.toList == [101, 97, 114, 116, 104]) with
    | true =>
      rw [if_pos rfl]
      generalize whenE (!(xb == -1)) 24 = v at *
      go_enter Tryz.func143, Tryz.ntmps143
      go_wp2_with fail
      (refine wp_region_calm [] [0, 1, 2, 3, 4, 5, 6, 7, 8, 9, 11, 12, 16, 17, 18] 10 (by kernel_rfl) rfl (by kernel_rfl) (by kernel_rfl) (by kernel_rfl) ?_; simp only [pickB, List.filterMap_cons, List.filterMap_nil, List.getElem?_toArray, List.getElem?_cons_zero, List.getElem?_cons_succ]; (repeat (first | ((first | (with_reducible refine quietL_plain rfl (fun K hK => ?_)) | (with_reducible refine quietL_want (by with_unfolding_all rfl) (fun K hK => ?_))); (apply Exists.intro; refine ⟨fun wx hx => ?_, ?_⟩; (· (have hcx := ifs_ex hx); simp [go_sem, *, ↓IntWalk.iteOmega] <;> (first | rfl | exact ⟨rfl, rfl⟩ | (have hbx := Ex.belowW hx; have hby : Below w.heap.size w wx := bl_; first | (with_reducible exact calls_B (calls_below (HW2.out _))) | (with_reducible exact calls_B (calls_below (HCN.out _))) | (with_reducible exact calls_B (HFs.out _ (by assumption)))))); (simp only [Act.put, List.setIfInBounds_toArray, List.set_cons_zero, List.set_cons_succ]; refine hK _ ?_; clear hK K))) | ((with_reducible refine quietL_skip (by with_unfolding_all rfl) ?_); simp only [Act.put, List.setIfInBounds_toArray, List.set_cons_zero, List.set_cons_succ]))); refine quietL_nil ?_)
      (refine anyB_one (i := 10) (by kernel_rfl) rfl rfl ?_; intro w2 hb2 K hK; obtain ⟨hc2, hf2⟩ := ifs_of hb2; have hs2 := hb2.size; (try simp at hs2); go_wp2; refine ⟨xs_, ?_⟩)
      (refine anyB_one (i := 13) (by kernel_rfl) rfl rfl ?_; intro w3 hb3 K hK; obtain ⟨hc3, hf3⟩ := ifs_of hb3; have hs3 := hb3.size; (try simp at hs3); go_wp2_with fail)
      refine (HHW.out _ w2.heap.size (((Reads.new (size := 1) w2 #[Value.string ⟨#[98, 114, 101, 97, 107, 101, 114]⟩, .string ⟨#[105, 115, 111, 108, 97, 116, 111, 114]⟩, .string ⟨#[101, 97, 114, 116, 104]⟩] 9 3 rfl : Reads (w2.alloc (.cells #[Value.string ⟨#[98, 114, 101, 97, 107, 101, 114]⟩, .string ⟨#[105, 115, 111, 108, 97, 116, 111, 114]⟩, .string ⟨#[101, 97, 114, 116, 104]⟩] 9)) (w2.heap.size + 1) 1 (some ⟨w2.heap.size, 0, none⟩) 3 (kindsL.map .string)).below (hb3.mono (by simp))).more (by simpa using hs3))).mono ?_
      rintro e w4 ⟨rfl, rfl⟩
      (go_wp2; refine ⟨xs_, ?_⟩)
      (refine anyB_one (i := 14) (by kernel_rfl) rfl rfl ?_; intro w5 hb5 K hK; obtain ⟨hc5, hf5⟩ := ifs_of hb5; have hs5 := hb5.size; (try simp at hs5); go_wp2; refine ⟨xs_, ?_⟩)
      (refine anyB_one (i := 15) (by kernel_rfl) rfl rfl ?_; intro w6 hb6 K hK; obtain ⟨hc6, hf6⟩ := ifs_of hb6; have hs6 := hb6.size; (try simp at hs6); go_wp2_with fail)
      refine (HW3.out _).mono ?_
      rintro e w7 ⟨rfl, rfl⟩
      (go_wp2; refine ⟨xs_, ?_⟩)
      (refine anyB_one (i := 19) (by kernel_rfl) rfl rfl ?_; intro w8 hb8 K hK; obtain ⟨hc8, hf8⟩ := ifs_of hb8; have hs8 := hb8.size; (try simp at hs8); go_wp2_with fail)
      refine (HA.out _).mono ?_
      (rintro e w9 ⟨rfl, hb9⟩; have hs9 := hb9.size; (try simp at hs9))
      obtain ⟨hc9, hf9⟩ := ifs_of hb9; have hs9 := hb9.size; (try simp at hs9)
      (go_wp2; refine ⟨xs_, ?_⟩)
      (refine anyB_one (i := 20) (by kernel_rfl) rfl rfl ?_; intro wa hba K hK; obtain ⟨hca, hfa⟩ := ifs_of hba; have hsa := hba.size; (try simp at hsa); go_wp2; refine ⟨xs_, ?_⟩)
      (refine anyB_one (i := 21) (by kernel_rfl) rfl rfl ?_; intro wb hbb K hK; obtain ⟨hcb, hfb⟩ := ifs_of hbb; have hsb := hbb.size; (try simp at hsb); go_wp2_with fail)
      refine (HW4.out _).mono ?_
      rintro e wc ⟨rfl, rfl⟩
      (go_wp2; refine ⟨xs_, ?_⟩)
      (refine anyB_one (i := 22) (by kernel_rfl) rfl rfl ?_; intro wd hbd K hK; obtain ⟨hcd, hfd⟩ := ifs_of hbd; have hsd := hbd.size; (try simp at hsd); go_wp2; refine ⟨xs_, ?_⟩)
      (refine anyB_one (i := 23) (by kernel_rfl) rfl rfl ?_; intro we hbe K hK; obtain ⟨hce, hfe⟩ := ifs_of hbe; have hse := hbe.size; (try simp at hse); go_wp2_with fail; refine (rFirst_any (wd.heap.size + 1) _ 4 4 [a1, a2, a3, a4] _ ((by simpa using Reads.new (size := 1) wd (([a1, a2, a3, a4]).map (.int .i64)).toArray 3 4 rfl : Reads (wd.alloc (.cells (([a1, a2, a3, a4]).map (.int .i64)).toArray 3)) (wd.heap.size + 1) 1 (some ⟨wd.heap.size, 0, none⟩) 4 (([a1, a2, a3, a4]).map (.int .i64))).below (hbe.mono (by simp))) (by unfold maxLen; decide)).mono ?_; rintro e we' ⟨rfl, rfl⟩; go_wp2; refine ⟨xs_, ?_⟩)
      rw [HEQ.out]
      (refine anyB_one (i := 24) (by kernel_rfl) rfl rfl ?_; intro wf hbf K hK; obtain ⟨hcf, hff⟩ := ifs_of hbf; have hsf := hbf.size; (try simp at hsf); go_wp2; refine ⟨xs_, ?_⟩)
      (refine anyB_end (by kernel_rfl) ?_; intro wg hbg; obtain ⟨hcg, hfg⟩ := ifs_of hbg; have hsg := hbg.size; (try simp at hsg); simp only [Calm]; go_wp2_with fail)
      refine (HW5.out _).mono ?_
      rintro e wh ⟨rfl, rfl⟩
      go_wp2_with fail
      go_ret
      exact ⟨rfl, bl_⟩
    | false =>
      simp only [Bool.false_eq_true, if_false]
      clear HW5
      go_enter Tryz.func143, Tryz.ntmps143
      go_wp2_with fail
      (refine wp_region_calm [] [0, 1, 2, 3, 4, 5, 6, 7, 8, 9, 11, 12, 16, 17, 18] 10 (by kernel_rfl) rfl (by kernel_rfl) (by kernel_rfl) (by kernel_rfl) ?_; simp only [pickB, List.filterMap_cons, List.filterMap_nil, List.getElem?_toArray, List.getElem?_cons_zero, List.getElem?_cons_succ]; (repeat (first | ((first | (with_reducible refine quietL_plain rfl (fun K hK => ?_)) | (with_reducible refine quietL_want (by with_unfolding_all rfl) (fun K hK => ?_))); (apply Exists.intro; refine ⟨fun wx hx => ?_, ?_⟩; (· (have hcx := ifs_ex hx); simp [go_sem, *, ↓IntWalk.iteOmega] <;> (first | rfl | exact ⟨rfl, rfl⟩ | (have hbx := Ex.belowW hx; have hby : Below w.heap.size w wx := bl_; first | (with_reducible exact calls_B (calls_below (HW2.out _))) | (with_reducible exact calls_B (calls_below (HCN.out _))) | (with_reducible exact calls_B (HFs.out _ (by assumption)))))); (simp only [Act.put, List.setIfInBounds_toArray, List.set_cons_zero, List.set_cons_succ]; refine hK _ ?_; clear hK K))) | ((with_reducible refine quietL_skip (by with_unfolding_all rfl) ?_); simp only [Act.put, List.setIfInBounds_toArray, List.set_cons_zero, List.set_cons_succ]))); refine quietL_nil ?_)
      (refine anyB_one (i := 10) (by kernel_rfl) rfl rfl ?_; intro w2 hb2 K hK; obtain ⟨hc2, hf2⟩ := ifs_of hb2; have hs2 := hb2.size; (try simp at hs2); go_wp2; refine ⟨xs_, ?_⟩)
      (refine anyB_one (i := 13) (by kernel_rfl) rfl rfl ?_; intro w3 hb3 K hK; obtain ⟨hc3, hf3⟩ := ifs_of hb3; have hs3 := hb3.size; (try simp at hs3); go_wp2_with fail)
      refine (HHW.out _ w2.heap.size (((Reads.new (size := 1) w2 #[Value.string ⟨#[98, 114, 101, 97, 107, 101, 114]⟩, .string ⟨#[105, 115, 111, 108, 97, 116, 111, 114]⟩, .string ⟨#[101, 97, 114, 116, 104]⟩] 9 3 rfl : Reads (w2.alloc (.cells #[Value.string ⟨#[98, 114, 101, 97, 107, 101, 114]⟩, .string ⟨#[105, 115, 111, 108, 97, 116, 111, 114]⟩, .string ⟨#[101, 97, 114, 116, 104]⟩] 9)) (w2.heap.size + 1) 1 (some ⟨w2.heap.size, 0, none⟩) 3 (kindsL.map .string)).below (hb3.mono (by simp))).more (by simpa using hs3))).mono ?_
      rintro e w4 ⟨rfl, rfl⟩
      (go_wp2; refine ⟨xs_, ?_⟩)
      (refine anyB_one (i := 14) (by kernel_rfl) rfl rfl ?_; intro w5 hb5 K hK; obtain ⟨hc5, hf5⟩ := ifs_of hb5; have hs5 := hb5.size; (try simp at hs5); go_wp2; refine ⟨xs_, ?_⟩)
      (refine anyB_one (i := 15) (by kernel_rfl) rfl rfl ?_; intro w6 hb6 K hK; obtain ⟨hc6, hf6⟩ := ifs_of hb6; have hs6 := hb6.size; (try simp at hs6); go_wp2_with fail)
      refine (HW3.out _).mono ?_
      rintro e w7 ⟨rfl, rfl⟩
      (go_wp2; refine ⟨xs_, ?_⟩)
      (refine anyB_one (i := 19) (by kernel_rfl) rfl rfl ?_; intro w8 hb8 K hK; obtain ⟨hc8, hf8⟩ := ifs_of hb8; have hs8 := hb8.size; (try simp at hs8); go_wp2_with fail)
      refine (HA.out _).mono ?_
      (rintro e w9 ⟨rfl, hb9⟩; have hs9 := hb9.size; (try simp at hs9))
      obtain ⟨hc9, hf9⟩ := ifs_of hb9; have hs9 := hb9.size; (try simp at hs9)
      (go_wp2; refine ⟨xs_, ?_⟩)
      (refine anyB_one (i := 20) (by kernel_rfl) rfl rfl ?_; intro wa hba K hK; obtain ⟨hca, hfa⟩ := ifs_of hba; have hsa := hba.size; (try simp at hsa); go_wp2; refine ⟨xs_, ?_⟩)
      (refine anyB_one (i := 21) (by kernel_rfl) rfl rfl ?_; intro wb hbb K hK; obtain ⟨hcb, hfb⟩ := ifs_of hbb; have hsb := hbb.size; (try simp at hsb); go_wp2_with fail)
      refine (HW4.out _).mono ?_
      rintro e wc ⟨rfl, rfl⟩
      (go_wp2; refine ⟨xs_, ?_⟩)
      (refine anyB_one (i := 22) (by kernel_rfl) rfl rfl ?_; intro wd hbd K hK; obtain ⟨hcd, hfd⟩ := ifs_of hbd; have hsd := hbd.size; (try simp at hsd); go_wp2; refine ⟨xs_, ?_⟩)
      (refine anyB_one (i := 23) (by kernel_rfl) rfl rfl ?_; intro we hbe K hK; obtain ⟨hce, hfe⟩ := ifs_of hbe; have hse := hbe.size; (try simp at hse); go_wp2_with fail; refine (rFirst_any (wd.heap.size + 1) _ 4 4 [a1, a2, a3, a4] _ ((by simpa using Reads.new (size := 1) wd (([a1, a2, a3, a4]).map (.int .i64)).toArray 3 4 rfl : Reads (wd.alloc (.cells (([a1, a2, a3, a4]).map (.int .i64)).toArray 3)) (wd.heap.size + 1) 1 (some ⟨wd.heap.size, 0, none⟩) 4 (([a1, a2, a3, a4]).map (.int .i64))).below (hbe.mono (by simp))) (by unfold maxLen; decide)).mono ?_; rintro e we' ⟨rfl, rfl⟩; go_wp2; refine ⟨xs_, ?_⟩)
      rw [HEQ.out]
      (refine anyB_one (i := 24) (by kernel_rfl) rfl rfl ?_; intro wf hbf K hK; obtain ⟨hcf, hff⟩ := ifs_of hbf; have hsf := hbf.size; (try simp at hsf); go_wp2; refine ⟨xs_, ?_⟩)
      (refine anyB_end (by kernel_rfl) ?_; intro wg hbg; obtain ⟨hcg, hfg⟩ := ifs_of hbg; have hsg := hbg.size; (try simp at hsg); simp only [Calm]; go_wp2_with fail)
      (refine wp_region_calm [] [0, 1, 2, 3, 4, 5, 6, 7, 8, 9, 10, 11] 3 (by kernel_rfl) rfl (by kernel_rfl) (by kernel_rfl) (by kernel_rfl) ?_; simp only [pickB, List.filterMap_cons, List.filterMap_nil, List.getElem?_toArray, List.getElem?_cons_zero, List.getElem?_cons_succ]; (repeat (first | ((first | (with_reducible refine quietL_plain rfl (fun K hK => ?_)) | (with_reducible refine quietL_want (by with_unfolding_all rfl) (fun K hK => ?_))); (apply Exists.intro; refine ⟨fun wx hx => ?_, ?_⟩; (· (have hcx := ifs_ex hx); simp [go_sem, *, ↓IntWalk.iteOmega] <;> (first | rfl | exact ⟨rfl, rfl⟩ | (have hbx := Ex.belowW hx; first | (with_reducible exact calls_B (calls_below (HW6.out _))) | (with_reducible exact calls_B (calls_below (HW7.out _))) | exact calls_B (HBs.out _)))); (simp only [Act.put, List.setIfInBounds_toArray, List.set_cons_zero, List.set_cons_succ]; refine hK _ ?_; clear hK K))) | ((with_reducible refine quietL_skip (by with_unfolding_all rfl) ?_); simp only [Act.put, List.setIfInBounds_toArray, List.set_cons_zero, List.set_cons_succ]))); refine quietL_nil ?_)
      (refine anyB_one (i := 12) (by kernel_rfl) rfl rfl ?_; intro wh hbh K hK; obtain ⟨hch, hfh⟩ := ifs_of hbh; have hsh := hbh.size; (try simp at hsh); go_wp2; refine ⟨xs_, ?_⟩)
      (refine anyB_one (i := 13) (by kernel_rfl) rfl rfl ?_; intro wi hbi K hK; obtain ⟨hci, hfi⟩ := ifs_of hbi; have hsi := hbi.size; (try simp at hsi); go_wp2_with fail; refine (rFirst_any (wh.heap.size + 1) _ 2 2 [b1, b2] _ ((by simpa using Reads.new (size := 1) wh (([b1, b2]).map (.int .i64)).toArray 3 2 rfl : Reads (wh.alloc (.cells (([b1, b2]).map (.int .i64)).toArray 3)) (wh.heap.size + 1) 1 (some ⟨wh.heap.size, 0, none⟩) 2 (([b1, b2]).map (.int .i64))).below (hbi.mono (by simp))) (by unfold maxLen; decide)).mono ?_; rintro e wi' ⟨rfl, rfl⟩; go_wp2; refine ⟨xs_, ?_⟩)
      (refine anyB_one (i := 14) (by kernel_rfl) rfl rfl ?_; intro wj hbj K hK; obtain ⟨hcj, hfj⟩ := ifs_of hbj; have hsj := hbj.size; (try simp at hsj); go_wp2; refine ⟨xs_, ?_⟩)
      (refine anyB_end (by kernel_rfl) ?_; intro wk hbk; obtain ⟨hck, hfk⟩ := ifs_of hbk; have hsk := hbk.size; (try simp at hsk); simp only [Calm]; go_wp2_with fail)
      go_ret
      exact ⟨rfl, bl_⟩
end Go.Proofs.YtphlojgmfkgeiaaGreatDoor
