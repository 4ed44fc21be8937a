/- Joined texts: UR UW BC BD BE BF. -/
import Derived.Test.YtafnebfchhmgcaaGreatQe
import Derived.Test.YtafnebfchhmgcaaGreatQh
import Derived.Deep.DeepCutAuto
import Derived.Deep.CutBlock
import Derived.Test.YtafnebfchhmgcaaGreatQf
/- Reference of the arm: Find, CheckModule, CheckArm. -/
namespace Go.Proofs.YtafnebfchhmgcaaGreat
open Go.RowKit Go.Sort Go.Shelf
set_option linter.unusedSimpArgs false
set_option linter.unusedVariables false
attribute [local go_sem] cell_if frozen_if grow_cell
def nmP (nm : ByteArray) (x : Md) : Bool := x.n.toList == nm.toList
theorem idx_drop {p : Md → Bool} {l : List Md} {j : Nat} (h : j < l.length) : idxP p j (l.drop j) = if p l[j] then (j : Int) else idxP p (j + 1) (l.drop (j + 1)) := by
  rw [List.drop_eq_getElem_cons h, idxP_cons]
set_option maxHeartbeats 1000000 in
theorem rFind_any (B : Nat) (A : Option Addr) (n c : Nat) (a : Ar) (nm : ByteArray) (m : Nat) (w : World) (hM : MsAt w B A n a.m) (hB : B ≤ w.heap.size) (hm : m ≤ n) (hn : n ≤ 400) :
    Calls Tryz.prog 126 #[.agg #[.slice A n c, .int .i64 a.lo, .int .i64 a.hi, .int .i64 a.cur, .int .i64 a.lim], .string nm, .int .i64 m] w fun e w' => e = .returned (.int .i64 (idxP (nmP nm) 0 (a.m.take m))) ∧ Below w.heap.size w w' := by
  obtain ⟨hl, hat⟩ := md_at hM
  have HL := Lib.hid hl
  have HA := Lib.hid hat
  clear hl hat hM
  go_enter Tryz.func126, Tryz.ntmps126
  go_wp2_with fail
  go_loopw [7] (fun i wr => ∃ k : Nat, k ≤ m ∧ i = .int .i64 k ∧ Hid (idxP (nmP nm) 0 (a.m.take m) = idxP (nmP nm) k ((a.m.take m).drop k)) ∧ Below w.heap.size w wr ∧ Blk wr w.heap.size 26 #[.slice A n c, .int .i64 a.lo, .int .i64 a.hi, .int .i64 a.cur, .int .i64 a.lim]) (fun i _ => m - (intOf i).toNat)
  case atStart => exact ⟨0, by omega, rfl, Lib.hid rfl, bl_, bk_⟩
  case round =>
    obtain ⟨k, hk, rfl, hg, hb, bA⟩ := hrel
    have hsr := hb.size
    have cA := bA.cell
    have lA := bA.lt
    have BA := Lib.hid bA
    clear bA
    by_cases hlt : k < m
    · have hkl : k < a.m.length := by rw [HL.out]; omega
      obtain ⟨b, o, eA, hbb, z0, _, _, _⟩ := HA.out k hkl
      have kb : ∀ i, wr.cell? ⟨b, i, none⟩ = w.cell? ⟨b, i, none⟩ := fun i => hb.cell (p := ⟨b, i, none⟩) (by simp; omega)
      rw [← kb] at z0
      clear kb
      have hbw : b < wr.heap.size := by omega
      have HD : Hid (idxP (nmP nm) k ((a.m.take m).drop k) = if nmP nm a.m[k] then (k : Int) else idxP (nmP nm) (k + 1) ((a.m.take m).drop (k + 1))) := by
        have h2 : k < (a.m.take m).length := by rw [List.length_take]; omega
        have h3 := idx_drop (p := nmP nm) h2
        rw [List.getElem_take] at h3
        exact Lib.hid h3
      subst eA
      unfold nmP at HD hg
      generalize a.m[k] = x at *
      obtain ⟨xn, xq, xo, xb⟩ := x
      dsimp only at z0 HD
      have hkn : k < n := by omega
      cases hq : (xn.toList == nm.toList) with
      | true =>
        rw [hq] at HD
        go_wp2_with fail
        go_ret
        exact ⟨by unfold nmP; rw [hg.out, HD.out]; rfl, hb⟩
      | false =>
        rw [hq] at HD
        go_wp2_with fail
        go_roundw
        case rel => exact ⟨k + 1, by omega, by go_num, by unfold nmP; rw [hg.out, HD.out]; exact Lib.hid rfl, hb, BA.out⟩
        case measure => simp [intOf]; omega
    · obtain rfl : k = m := by omega
      go_wp2_with fail
      go_ret
      exact ⟨by rw [hg.out, List.drop_eq_nil_of_le (by rw [List.length_take]; omega)]; rfl, hb⟩
theorem rChg_any (q : Int) (w : World) : Calls Tryz.prog 79 #[.int .i64 q] w fun e w' => e = .returned (.int .i64 (ckR q 0 16384)) ∧ w = w' := by
  go_enter Tryz.func79, Tryz.ntmps79
  go_wp2_with fail
  refine (rRange_any _ _ _ _).mono ?_
  rintro e w1 ⟨rfl, rfl⟩
  go_wp2_with fail
  go_ret
  exact ⟨rfl, rfl⟩
theorem rinBand_any (A : Option Addr) (n c : Nat) (a : Ar) (q : Int) (w : World) : Calls Tryz.prog 127 #[.agg #[.slice A n c, .int .i64 a.lo, .int .i64 a.hi, .int .i64 a.cur, .int .i64 a.lim], .int .i64 q] w fun e w' => e = .returned (.bool (inB a.lo a.hi q)) ∧ Below w.heap.size w w' := by
  unfold inB
  by_cases h : a.lo ≤ q
  · rw [decide_eq_true h, Bool.true_and]
    go_enter Tryz.func127, Tryz.ntmps127
    go_wp2
    go_ret
    exact ⟨by first | rfl | (simp; done), bl_⟩
  · rw [decide_eq_false h, Bool.false_and]
    go_enter Tryz.func127, Tryz.ntmps127
    go_wp2
    go_ret
    exact ⟨by first | rfl | (simp; done), bl_⟩
theorem twice_idx (l : List Md) (x : Md) : decide (0 ≤ idxP (nmP x.n) 0 l) = twiceB l x := by
  rw [idxP_any]
  rfl
theorem mdE_seq (pre : List Md) (lo hi : Int) (x : Md) : mdE pre lo hi x = or0 (nameE x.n) (or0 (whenE (twiceB pre x) 9) (or0 (ckR x.q 0 16384) (or0 (whenE (x.on && x.by_) 24) (whenE (!x.by_ && !inB lo hi x.q) 30)))) := by
  unfold mdE
  rw [firstE_cons, firstE_cons, firstE_cons, firstE_cons, firstE_cons, firstE_nil]
  have h : ∀ z : Int, or0 z 0 = z := fun z => by unfold or0; split <;> simp_all
  rw [h]
theorem or0_no {a b : Int} (h : a ≠ 0) : or0 a b = a := by unfold or0; rw [if_neg h]
theorem or0_yes (b : Int) : or0 0 b = b := rfl
set_option maxHeartbeats 2000000 in
theorem rCheckModule_any (B : Nat) (A : Option Addr) (n c : Nat) (a : Ar) (k : Nat) (w : World) (hM : MsAt w B A n a.m) (hB : B ≤ w.heap.size) (hk : k < n) (hn : n ≤ 400) (hnm : ∀ x ∈ a.m, x.n.size ≤ maxLen) (hkl : k < a.m.length) :
    Calls Tryz.prog 81 #[.agg #[.slice A n c, .int .i64 a.lo, .int .i64 a.hi, .int .i64 a.cur, .int .i64 a.lim], .int .i64 k] w fun e w' => e = .returned (.int .i64 (mdE (a.m.take k) a.lo a.hi a.m[k])) ∧ Below w.heap.size w w' := by
  have HFd := Lib.hid (fun W nm (hW : Below w.heap.size w W) => rFind_any B A n c a nm k W (hM.below (hW.mono hB)) (by have := hW.size; omega) (by omega) hn)
  obtain ⟨hl, hat⟩ := md_at hM
  obtain ⟨b, o, eA, hbb, z0, z1, z2, z3⟩ := hat k hkl
  have hns := hnm _ (List.getElem_mem hkl)
  have hbw : b < w.heap.size := by omega
  rw [mdE_seq]
  have HTw := Lib.hid (twice_idx (a.m.take k) a.m[k])
  subst eA
  clear hl hat hM hnm
  generalize a.m[k] = x at *
  obtain ⟨xn, xq, xo, xb⟩ := x
  dsimp only at z0 z1 z2 z3 hns HTw
  dsimp only
  rw [← HTw.out]
  have HN := Lib.hid (fun W => CheckName_any xn W hns)
  have HF2 := Lib.hid (fun W hW => HFd.out W xn hW)
  have HBd := Lib.hid (fun W => rinBand_any (some ⟨b, o, none⟩) n c a xq W)
  clear HTw HFd hns
  generalize nameE xn = e1 at *
  generalize idxP (nmP xn) 0 (a.m.take k) = fi at *
  obtain ⟨e3, he3⟩ : ∃ e3, ckR xq 0 16384 = e3 := ⟨_, rfl⟩
  have HC := Lib.hid (fun W => rChg_any xq W)
  rw [he3] at HC
  rw [he3]
  obtain ⟨ib, hib⟩ : ∃ ib, inB a.lo a.hi xq = ib := ⟨_, rfl⟩
  rw [hib] at HBd
  rw [hib]
  clear he3 hib
  by_cases h1 : e1 = 0
  · subst h1
    rw [or0_yes]
    by_cases h2 : 0 ≤ fi
    · rw [decide_eq_true h2, show whenE true 9 = 9 from rfl, or0_no (by decide)]
      go_enter Tryz.func81, Tryz.ntmps81
      go_wp2_with fail
      refine (HN.out _).mono ?_
      rintro e w1 ⟨rfl, rfl⟩
      go_wp2_with fail
      refine (HF2.out _ bl_).mono ?_
      (rintro e w2 ⟨rfl, hb2⟩; have hs2 := hb2.size; (try simp at hs2))
      go_wp2_with fail
      go_ret
      exact ⟨rfl, bl_⟩
    · rw [decide_eq_false h2, show whenE false 9 = 0 from rfl, or0_yes]
      by_cases h3 : e3 = 0
      · subst h3
        rw [or0_yes]
        cases xo <;> cases xb <;> cases ib
        all_goals
          go_enter Tryz.func81, Tryz.ntmps81
          go_wp2_with fail
          refine (HN.out _).mono ?_
          rintro e w1 ⟨rfl, rfl⟩
          go_wp2_with fail
          refine (HF2.out _ bl_).mono ?_
          (rintro e w2 ⟨rfl, hb2⟩; have hs2 := hb2.size; (try simp at hs2))
          obtain ⟨hc2, hf2⟩ := ifs_of hb2; have hs2 := hb2.size; (try simp at hs2)
          go_wp2_with fail
          refine (HC.out _).mono ?_
          rintro e w3 ⟨rfl, rfl⟩
          go_wp2_with fail
          (try (refine (HBd.out _).mono ?_; rintro e w4 ⟨rfl, hb4⟩; have hs4 := hb4.size; go_wp2_with fail))
          go_ret
          exact ⟨rfl, bl_⟩
      · have hne : (e3 != 0) = true := by simpa using h3
        rw [or0_no h3]
        go_enter Tryz.func81, Tryz.ntmps81
        go_wp2_with fail
        refine (HN.out _).mono ?_
        rintro e w1 ⟨rfl, rfl⟩
        go_wp2_with fail
        refine (HF2.out _ bl_).mono ?_
        (rintro e w2 ⟨rfl, hb2⟩; have hs2 := hb2.size; (try simp at hs2))
        obtain ⟨hc2, hf2⟩ := ifs_of hb2; have hs2 := hb2.size; (try simp at hs2)
        go_wp2_with fail
        refine (HC.out _).mono ?_
        rintro e w3 ⟨rfl, rfl⟩
        go_wp2_with fail
        go_ret
        exact ⟨rfl, bl_⟩
  · have hne : (e1 != 0) = true := by simpa using h1
    rw [or0_no h1]
    go_enter Tryz.func81, Tryz.ntmps81
    go_wp2_with fail
    refine (HN.out _).mono ?_
    rintro e w1 ⟨rfl, rfl⟩
    go_wp2_with fail
    go_ret
    exact ⟨rfl, bl_⟩
theorem first2 (a b : Int) : firstE [a, b] = or0 a b := by
  rw [firstE_cons, firstE_cons, firstE_nil]
  have h : ∀ z : Int, or0 z 0 = z := fun z => by unfold or0; split <;> simp_all
  rw [h]
theorem head_seq (a : Ar) : headE a = or0 (whenE ((a.m.length : Int) == 0) 12) (or0 (whenE (decide ((16 : Int) < a.m.length)) 5) (or0 (firstE [ckR a.lo 0 16384, ckR a.hi 0 16384]) (or0 (whenE (decide (a.hi < a.lo)) 11) (firstE [ckR a.cur 0 1000, ckR a.lim 0 16])))) := by
  unfold headE
  rw [firstE_cons, firstE_cons, firstE_cons, firstE_cons, firstE_cons, first2, first2]
  have h : ∀ a b c : Int, or0 (or0 a b) c = or0 a (or0 b c) := fun a b c => by unfold or0; split <;> simp_all
  rw [h]
theorem or0_assoc (a b c : Int) : or0 (or0 a b) c = or0 a (or0 b c) := by unfold or0; split <;> simp_all
set_option maxRecDepth 100000 in
set_option maxHeartbeats 4000000 in
theorem rCheckArm_any (B : Nat) (A : Option Addr) (n c : Nat) (a : Ar) (w : World) (hM : MsAt w B A n a.m) (hB : B ≤ w.heap.size) (hF : FitA a) :
    Calls Tryz.prog 28 #[.agg #[.slice A n c, .int .i64 a.lo, .int .i64 a.hi, .int .i64 a.cur, .int .i64 a.lim]] w fun e w' => e = .returned (.int .i64 (armE a)) ∧ Below w.heap.size w w' := by
  have hl := (md_at hM).1
  have h17 := hF.len
  have HM := Lib.hid (fun W k (hW : Below w.heap.size w W) hk hkl => rCheckModule_any B A n c a k W (hM.below (hW.mono hB)) (by have := hW.size; omega) hk (by omega) hF.nm hkl)
  unfold armE
  rw [head_seq, or0_assoc, or0_assoc, or0_assoc, or0_assoc, hl]
  obtain ⟨f1, hf1⟩ : ∃ f1, firstE [ckR a.lo 0 16384, ckR a.hi 0 16384] = f1 := ⟨_, rfl⟩
  obtain ⟨f2, hf2⟩ : ∃ f2, firstE [ckR a.cur 0 1000, ckR a.lim 0 16] = f2 := ⟨_, rfl⟩
  have HL := Lib.hid hl
  have HF1 := Lib.hid hf1
  have HF2 := Lib.hid hf2
  rw [hf1, hf2]
  have hn17 : n ≤ 17 := by omega
  clear hl h17 hf1 hf2 hM hF
  by_cases h1 : n = 0
  · rw [show ((n : Int) == 0) = true by simp [h1], show whenE true 12 = 12 from rfl, or0_no (by decide)]
    have h1' : ((n : Int) == 0) = true := by simp [h1]
    go_enter Tryz.func28, Tryz.ntmps28
    go_wp2_with fail
    go_ret
    exact ⟨rfl, bl_⟩
  · rw [show ((n : Int) == 0) = false by simp [h1], show whenE false 12 = 0 from rfl, or0_yes]
    have h1' : ((n : Int) == 0) = false := by simp [h1]
    by_cases h2 : (16 : Int) < (n : Int)
    · rw [decide_eq_true h2, show whenE true 5 = 5 from rfl, or0_no (by decide)]
      go_enter Tryz.func28, Tryz.ntmps28
      go_wp2_with fail
      go_ret
      exact ⟨rfl, bl_⟩
    · rw [decide_eq_false h2, show whenE false 5 = 0 from rfl, or0_yes]
      by_cases h3 : f1 = 0
      · subst h3
        rw [or0_yes]
        by_cases h4 : a.hi < a.lo
        · rw [decide_eq_true h4, show whenE true 11 = 11 from rfl, or0_no (by decide)]
          go_enter Tryz.func28, Tryz.ntmps28
          go_wp2_with fail
          (refine wp_region_calm [] [0, 1, 2, 3, 4, 5, 6, 7] 3 (by kernel_rfl) rfl (by kernel_rfl) (by kernel_rfl) (by kernel_rfl) ?_; simp only [pickB, List.filterMap_cons, List.filterMap_nil, List.getElem?_toArray, List.getElem?_cons_zero, List.getElem?_cons_succ]; (repeat (first | ((first | (with_reducible refine quietL_plain rfl (fun K hK => ?_)) | (with_reducible refine quietL_want (by with_unfolding_all rfl) (fun K hK => ?_))); (apply Exists.intro; refine ⟨fun wx hx => ?_, ?_⟩; (· (have hcx := ifs_ex hx); simp [go_sem, *, ↓IntWalk.iteOmega] <;> (first | rfl | exact ⟨rfl, rfl⟩ | (with_reducible exact calls_B (calls_below (rChg_any _ _))))); (simp only [Act.put, List.setIfInBounds_toArray, List.set_cons_zero, List.set_cons_succ]; refine hK _ ?_; clear hK K))) | ((with_reducible refine quietL_skip (by with_unfolding_all rfl) ?_); simp only [Act.put, List.setIfInBounds_toArray, List.set_cons_zero, List.set_cons_succ]))); refine quietL_nil ?_)
          (refine anyB_one (i := 8) (by kernel_rfl) rfl rfl ?_; intro w2 hb2 K hK; obtain ⟨hc2, hf2⟩ := ifs_of hb2; have hs2 := hb2.size; (try simp at hs2); go_wp2; refine ⟨xs_, ?_⟩)
          (refine anyB_one (i := 9) (by kernel_rfl) rfl rfl ?_; intro w3 hb3 K hK; obtain ⟨hc3, hf3⟩ := ifs_of hb3; have hs3 := hb3.size; (try simp at hs3); go_wp2_with fail; refine (rFirst_any (w2.heap.size + 1) _ 2 2 [ckR a.lo 0 16384, ckR a.hi 0 16384] _ ((by simpa using Reads.new (size := 1) w2 (([ckR a.lo 0 16384, ckR a.hi 0 16384]).map (.int .i64)).toArray 3 2 rfl : Reads (w2.alloc (.cells (([ckR a.lo 0 16384, ckR a.hi 0 16384]).map (.int .i64)).toArray 3)) (w2.heap.size + 1) 1 (some ⟨w2.heap.size, 0, none⟩) 2 (([ckR a.lo 0 16384, ckR a.hi 0 16384]).map (.int .i64))).below (hb3.mono (by simp))) (by unfold maxLen; decide)).mono ?_; rintro e w3' ⟨rfl, rfl⟩; go_wp2; refine ⟨xs_, ?_⟩)
          rw [HF1.out]
          (refine anyB_one (i := 10) (by kernel_rfl) rfl rfl ?_; intro w4 hb4 K hK; obtain ⟨hc4, hf4⟩ := ifs_of hb4; have hs4 := hb4.size; (try simp at hs4); go_wp2; refine ⟨xs_, ?_⟩)
          (refine anyB_end (by kernel_rfl) ?_; intro w5 hb5; obtain ⟨hc5, hf5⟩ := ifs_of hb5; have hs5 := hb5.size; (try simp at hs5); simp only [Calm])
          go_wp2_with fail
          go_ret
          exact ⟨rfl, bl_⟩
        · rw [decide_eq_false h4, show whenE false 11 = 0 from rfl, or0_yes]
          by_cases h5 : f2 = 0
          · subst h5
            rw [or0_yes]
            as_aux_lemma =>
              go_enter Tryz.func28, Tryz.ntmps28
              go_wp2_with fail
              (refine wp_region_calm [] [0, 1, 2, 3, 4, 5, 6, 7] 3 (by kernel_rfl) rfl (by kernel_rfl) (by kernel_rfl) (by kernel_rfl) ?_; simp only [pickB, List.filterMap_cons, List.filterMap_nil, List.getElem?_toArray, List.getElem?_cons_zero, List.getElem?_cons_succ]; (repeat (first | ((first | (with_reducible refine quietL_plain rfl (fun K hK => ?_)) | (with_reducible refine quietL_want (by with_unfolding_all rfl) (fun K hK => ?_))); (apply Exists.intro; refine ⟨fun wx hx => ?_, ?_⟩; (· (have hcx := ifs_ex hx); simp [go_sem, *, ↓IntWalk.iteOmega] <;> (first | rfl | exact ⟨rfl, rfl⟩ | (with_reducible exact calls_B (calls_below (rChg_any _ _))))); (simp only [Act.put, List.setIfInBounds_toArray, List.set_cons_zero, List.set_cons_succ]; refine hK _ ?_; clear hK K))) | ((with_reducible refine quietL_skip (by with_unfolding_all rfl) ?_); simp only [Act.put, List.setIfInBounds_toArray, List.set_cons_zero, List.set_cons_succ]))); refine quietL_nil ?_)
              (refine anyB_one (i := 8) (by kernel_rfl) rfl rfl ?_; intro w2 hb2 K hK; obtain ⟨hc2, hf2⟩ := ifs_of hb2; have hs2 := hb2.size; (try simp at hs2); go_wp2; refine ⟨xs_, ?_⟩)
              (refine anyB_one (i := 9) (by kernel_rfl) rfl rfl ?_; intro w3 hb3 K hK; obtain ⟨hc3, hf3⟩ := ifs_of hb3; have hs3 := hb3.size; (try simp at hs3); go_wp2_with fail; refine (rFirst_any (w2.heap.size + 1) _ 2 2 [ckR a.lo 0 16384, ckR a.hi 0 16384] _ ((by simpa using Reads.new (size := 1) w2 (([ckR a.lo 0 16384, ckR a.hi 0 16384]).map (.int .i64)).toArray 3 2 rfl : Reads (w2.alloc (.cells (([ckR a.lo 0 16384, ckR a.hi 0 16384]).map (.int .i64)).toArray 3)) (w2.heap.size + 1) 1 (some ⟨w2.heap.size, 0, none⟩) 2 (([ckR a.lo 0 16384, ckR a.hi 0 16384]).map (.int .i64))).below (hb3.mono (by simp))) (by unfold maxLen; decide)).mono ?_; rintro e w3' ⟨rfl, rfl⟩; go_wp2; refine ⟨xs_, ?_⟩)
              rw [HF1.out]
              (refine anyB_one (i := 10) (by kernel_rfl) rfl rfl ?_; intro w4 hb4 K hK; obtain ⟨hc4, hf4⟩ := ifs_of hb4; have hs4 := hb4.size; (try simp at hs4); go_wp2; refine ⟨xs_, ?_⟩)
              (refine anyB_end (by kernel_rfl) ?_; intro w5 hb5; obtain ⟨hc5, hf5⟩ := ifs_of hb5; have hs5 := hb5.size; (try simp at hs5); simp only [Calm])
              go_wp2_with fail
              (refine wp_region_calm [] [0, 1, 2, 3, 4, 5] 3 (by kernel_rfl) rfl (by kernel_rfl) (by kernel_rfl) (by kernel_rfl) ?_; simp only [pickB, List.filterMap_cons, List.filterMap_nil, List.getElem?_toArray, List.getElem?_cons_zero, List.getElem?_cons_succ]; (repeat (first | ((first | (with_reducible refine quietL_plain rfl (fun K hK => ?_)) | (with_reducible refine quietL_want (by with_unfolding_all rfl) (fun K hK => ?_))); (apply Exists.intro; refine ⟨fun wx hx => ?_, ?_⟩; (· (have hcx := ifs_ex hx); simp [go_sem, *, ↓IntWalk.iteOmega] <;> (first | rfl | exact ⟨rfl, rfl⟩ | (with_reducible exact calls_B (calls_below (rRange_any _ _ _ _))))); (simp only [Act.put, List.setIfInBounds_toArray, List.set_cons_zero, List.set_cons_succ]; refine hK _ ?_; clear hK K))) | ((with_reducible refine quietL_skip (by with_unfolding_all rfl) ?_); simp only [Act.put, List.setIfInBounds_toArray, List.set_cons_zero, List.set_cons_succ]))); refine quietL_nil ?_)
              (refine anyB_one (i := 6) (by kernel_rfl) rfl rfl ?_; intro w7 hb7 K hK; obtain ⟨hc7, hf7⟩ := ifs_of hb7; have hs7 := hb7.size; (try simp at hs7); go_wp2; refine ⟨xs_, ?_⟩)
              (refine anyB_one (i := 7) (by kernel_rfl) rfl rfl ?_; intro w8 hb8 K hK; obtain ⟨hc8, hf8⟩ := ifs_of hb8; have hs8 := hb8.size; (try simp at hs8); go_wp2_with fail; refine (rFirst_any (w7.heap.size + 1) _ 2 2 [ckR a.cur 0 1000, ckR a.lim 0 16] _ ((by simpa using Reads.new (size := 1) w7 (([ckR a.cur 0 1000, ckR a.lim 0 16]).map (.int .i64)).toArray 3 2 rfl : Reads (w7.alloc (.cells (([ckR a.cur 0 1000, ckR a.lim 0 16]).map (.int .i64)).toArray 3)) (w7.heap.size + 1) 1 (some ⟨w7.heap.size, 0, none⟩) 2 (([ckR a.cur 0 1000, ckR a.lim 0 16]).map (.int .i64))).below (hb8.mono (by simp))) (by unfold maxLen; decide)).mono ?_; rintro e w8' ⟨rfl, rfl⟩; go_wp2; refine ⟨xs_, ?_⟩)
              rw [HF2.out]
              (refine anyB_one (i := 8) (by kernel_rfl) rfl rfl ?_; intro w9 hb9 K hK; obtain ⟨hc9, hf9⟩ := ifs_of hb9; have hs9 := hb9.size; (try simp at hs9); go_wp2; refine ⟨xs_, ?_⟩)
              (refine anyB_end (by kernel_rfl) ?_; intro w10 hb10; obtain ⟨hc10, hf10⟩ := ifs_of hb10; have hs10 := hb10.size; (try simp at hs10); simp only [Calm])
              have BA := Lib.hid (bk_ : Blk w10 w.heap.size 26 #[.slice A n c, .int .i64 a.lo, .int .i64 a.hi, .int .i64 a.cur, .int .i64 a.lim])
              have HBW := Lib.hid (bl_ : Below w.heap.size w w10)
              clear hb2 hb3 hb4 hb5 hc2 hc3 hc4 hc5 hf2 hf3 hf4 hf5 hb7 hb8 hb9 hb10 hc7 hc8 hc9 hc10 hf7 hf8 hf9 hf10
              go_wp2_with fail
              go_loopw [5] (fun i wr => ∃ k : Nat, k ≤ n ∧ i = .int .i64 k ∧ Hid (mdsGo a.lo a.hi (a.m.take k) (a.m.drop k) = mdsGo a.lo a.hi [] a.m) ∧ Below w.heap.size w wr ∧ Blk wr w.heap.size 26 #[.slice A n c, .int .i64 a.lo, .int .i64 a.hi, .int .i64 a.cur, .int .i64 a.lim]) (fun i _ => n - (intOf i).toNat)
              case atStart => exact ⟨0, by omega, rfl, Lib.hid rfl, HBW.out, BA.out⟩
              case round =>
                clear BA HBW
                obtain ⟨k, hk, rfl, hg, hb, bA⟩ := hrel
                have hsr := hb.size
                have cA := bA.cell
                have lA := bA.lt
                have BA := Lib.hid bA
                clear bA
                by_cases hlt : k < n
                · have hkl : k < a.m.length := by rw [HL.out]; exact hlt
                  have HC := Lib.hid (HM.out wr k hb hlt hkl)
                  have HGG := Lib.hid (hg.out.symm.trans (mdsGo_at a.lo a.hi hkl))
                  generalize mdE (a.m.take k) a.lo a.hi a.m[k] = ee at *
                  by_cases hz : ee = 0
                  · subst hz
                    go_wp2_with fail
                    refine HC.out.mono ?_
                    (rintro e w12 ⟨rfl, hb12⟩; have hs12 := hb12.size; (try simp at hs12))
                    have bA2 := BA.out.kept hb12
                    have hbw2 := hb.trans (hb12.mono hsr)
                    go_wp2_with fail
                    go_roundw
                    case rel => exact ⟨k + 1, by omega, by go_num, Lib.hid HGG.out.symm, hbw2, bA2⟩
                    case measure => simp [intOf]; omega
                  · have hne : (ee != 0) = true := by simpa using hz
                    go_wp2_with fail
                    refine HC.out.mono ?_
                    (rintro e w12 ⟨rfl, hb12⟩; have hs12 := hb12.size; (try simp at hs12))
                    have hbw2 := hb.trans (hb12.mono hsr)
                    go_wp2_with fail
                    go_ret
                    exact ⟨by rw [HGG.out, or0_no hz]; rfl, hbw2⟩
                · obtain rfl : k = n := by omega
                  go_wp2_with fail
                  go_ret
                  exact ⟨by rw [← hg.out, List.drop_eq_nil_of_le (by rw [HL.out]; exact Nat.le_refl _)]; rfl, hb⟩
          · have hne : (f2 != 0) = true := by simpa using h5
            rw [or0_no h5]
            go_enter Tryz.func28, Tryz.ntmps28
            go_wp2_with fail
            (refine wp_region_calm [] [0, 1, 2, 3, 4, 5, 6, 7] 3 (by kernel_rfl) rfl (by kernel_rfl) (by kernel_rfl) (by kernel_rfl) ?_; simp only [pickB, List.filterMap_cons, List.filterMap_nil, List.getElem?_toArray, List.getElem?_cons_zero, List.getElem?_cons_succ]; (repeat (first | ((first | (with_reducible refine quietL_plain rfl (fun K hK => ?_)) | (with_reducible refine quietL_want (by with_unfolding_all rfl) (fun K hK => ?_))); (apply Exists.intro; refine ⟨fun wx hx => ?_, ?_⟩; (· (have hcx := ifs_ex hx); simp [go_sem, *, ↓IntWalk.iteOmega] <;> (first | rfl | exact ⟨rfl, rfl⟩ | (with_reducible exact calls_B (calls_below (rChg_any _ _))))); (simp only [Act.put, List.setIfInBounds_toArray, List.set_cons_zero, List.set_cons_succ]; refine hK _ ?_; clear hK K))) | ((with_reducible refine quietL_skip (by with_unfolding_all rfl) ?_); simp only [Act.put, List.setIfInBounds_toArray, List.set_cons_zero, List.set_cons_succ]))); refine quietL_nil ?_)
            (refine anyB_one (i := 8) (by kernel_rfl) rfl rfl ?_; intro w2 hb2 K hK; obtain ⟨hc2, hf2⟩ := ifs_of hb2; have hs2 := hb2.size; (try simp at hs2); go_wp2; refine ⟨xs_, ?_⟩)
            (refine anyB_one (i := 9) (by kernel_rfl) rfl rfl ?_; intro w3 hb3 K hK; obtain ⟨hc3, hf3⟩ := ifs_of hb3; have hs3 := hb3.size; (try simp at hs3); go_wp2_with fail; refine (rFirst_any (w2.heap.size + 1) _ 2 2 [ckR a.lo 0 16384, ckR a.hi 0 16384] _ ((by simpa using Reads.new (size := 1) w2 (([ckR a.lo 0 16384, ckR a.hi 0 16384]).map (.int .i64)).toArray 3 2 rfl : Reads (w2.alloc (.cells (([ckR a.lo 0 16384, ckR a.hi 0 16384]).map (.int .i64)).toArray 3)) (w2.heap.size + 1) 1 (some ⟨w2.heap.size, 0, none⟩) 2 (([ckR a.lo 0 16384, ckR a.hi 0 16384]).map (.int .i64))).below (hb3.mono (by simp))) (by unfold maxLen; decide)).mono ?_; rintro e w3' ⟨rfl, rfl⟩; go_wp2; refine ⟨xs_, ?_⟩)
            rw [HF1.out]
            (refine anyB_one (i := 10) (by kernel_rfl) rfl rfl ?_; intro w4 hb4 K hK; obtain ⟨hc4, hf4⟩ := ifs_of hb4; have hs4 := hb4.size; (try simp at hs4); go_wp2; refine ⟨xs_, ?_⟩)
            (refine anyB_end (by kernel_rfl) ?_; intro w5 hb5; obtain ⟨hc5, hf5⟩ := ifs_of hb5; have hs5 := hb5.size; (try simp at hs5); simp only [Calm])
            go_wp2_with fail
            (refine wp_region_calm [] [0, 1, 2, 3, 4, 5] 3 (by kernel_rfl) rfl (by kernel_rfl) (by kernel_rfl) (by kernel_rfl) ?_; simp only [pickB, List.filterMap_cons, List.filterMap_nil, List.getElem?_toArray, List.getElem?_cons_zero, List.getElem?_cons_succ]; (repeat (first | ((first | (with_reducible refine quietL_plain rfl (fun K hK => ?_)) | (with_reducible refine quietL_want (by with_unfolding_all rfl) (fun K hK => ?_))); (apply Exists.intro; refine ⟨fun wx hx => ?_, ?_⟩; (· (have hcx := ifs_ex hx); simp [go_sem, *, ↓IntWalk.iteOmega] <;> (first | rfl | exact ⟨rfl, rfl⟩ | (with_reducible exact calls_B (calls_below (rRange_any _ _ _ _))))); (simp only [Act.put, List.setIfInBounds_toArray, List.set_cons_zero, List.set_cons_succ]; refine hK _ ?_; clear hK K))) | ((with_reducible refine quietL_skip (by with_unfolding_all rfl) ?_); simp only [Act.put, List.setIfInBounds_toArray, List.set_cons_zero, List.set_cons_succ]))); refine quietL_nil ?_)
            (refine anyB_one (i := 6) (by kernel_rfl) rfl rfl ?_; intro w7 hb7 K hK; obtain ⟨hc7, hf7⟩ := ifs_of hb7; have hs7 := hb7.size; (try simp at hs7); go_wp2; refine ⟨xs_, ?_⟩)
            (refine anyB_one (i := 7) (by kernel_rfl) rfl rfl ?_; intro w8 hb8 K hK; obtain ⟨hc8, hf8⟩ := ifs_of hb8; have hs8 := hb8.size; (try simp at hs8); go_wp2_with fail; refine (rFirst_any (w7.heap.size + 1) _ 2 2 [ckR a.cur 0 1000, ckR a.lim 0 16] _ ((by simpa using Reads.new (size := 1) w7 (([ckR a.cur 0 1000, ckR a.lim 0 16]).map (.int .i64)).toArray 3 2 rfl : Reads (w7.alloc (.cells (([ckR a.cur 0 1000, ckR a.lim 0 16]).map (.int .i64)).toArray 3)) (w7.heap.size + 1) 1 (some ⟨w7.heap.size, 0, none⟩) 2 (([ckR a.cur 0 1000, ckR a.lim 0 16]).map (.int .i64))).below (hb8.mono (by simp))) (by unfold maxLen; decide)).mono ?_; rintro e w8' ⟨rfl, rfl⟩; go_wp2; refine ⟨xs_, ?_⟩)
            rw [HF2.out]
            (refine anyB_one (i := 8) (by kernel_rfl) rfl rfl ?_; intro w9 hb9 K hK; obtain ⟨hc9, hf9⟩ := ifs_of hb9; have hs9 := hb9.size; (try simp at hs9); go_wp2; refine ⟨xs_, ?_⟩)
            (refine anyB_end (by kernel_rfl) ?_; intro w10 hb10; obtain ⟨hc10, hf10⟩ := ifs_of hb10; have hs10 := hb10.size; (try simp at hs10); simp only [Calm])
            go_wp2_with fail
            go_ret
            exact ⟨rfl, bl_⟩
      · have hne : (f1 != 0) = true := by simpa using h3
        rw [or0_no h3]
        go_enter Tryz.func28, Tryz.ntmps28
        go_wp2_with fail
        (refine wp_region_calm [] [0, 1, 2, 3, 4, 5, 6, 7] 3 (by kernel_rfl) rfl (by kernel_rfl) (by kernel_rfl) (by kernel_rfl) ?_; simp only [pickB, List.filterMap_cons, List.filterMap_nil, List.getElem?_toArray, List.getElem?_cons_zero, List.getElem?_cons_succ]; (repeat (first | ((first | (with_reducible refine quietL_plain rfl (fun K hK => ?_)) | (with_reducible refine quietL_want (by with_unfolding_all rfl) (fun K hK => ?_))); (apply Exists.intro; refine ⟨fun wx hx => ?_, ?_⟩; (· (have hcx := ifs_ex hx); simp [go_sem, *, ↓IntWalk.iteOmega] <;> (first | rfl | exact ⟨rfl, rfl⟩ | (with_reducible exact calls_B (calls_below (rChg_any _ _))))); (simp only [Act.put, List.setIfInBounds_toArray, List.set_cons_zero, List.set_cons_succ]; refine hK _ ?_; clear hK K))) | ((with_reducible refine quietL_skip (by with_unfolding_all rfl) ?_); simp only [Act.put, List.setIfInBounds_toArray, List.set_cons_zero, List.set_cons_succ]))); refine quietL_nil ?_)
        (refine anyB_one (i := 8) (by kernel_rfl) rfl rfl ?_; intro w2 hb2 K hK; obtain ⟨hc2, hf2⟩ := ifs_of hb2; have hs2 := hb2.size; (try simp at hs2); go_wp2; refine ⟨xs_, ?_⟩)
        (refine anyB_one (i := 9) (by kernel_rfl) rfl rfl ?_; intro w3 hb3 K hK; obtain ⟨hc3, hf3⟩ := ifs_of hb3; have hs3 := hb3.size; (try simp at hs3); go_wp2_with fail; refine (rFirst_any (w2.heap.size + 1) _ 2 2 [ckR a.lo 0 16384, ckR a.hi 0 16384] _ ((by simpa using Reads.new (size := 1) w2 (([ckR a.lo 0 16384, ckR a.hi 0 16384]).map (.int .i64)).toArray 3 2 rfl : Reads (w2.alloc (.cells (([ckR a.lo 0 16384, ckR a.hi 0 16384]).map (.int .i64)).toArray 3)) (w2.heap.size + 1) 1 (some ⟨w2.heap.size, 0, none⟩) 2 (([ckR a.lo 0 16384, ckR a.hi 0 16384]).map (.int .i64))).below (hb3.mono (by simp))) (by unfold maxLen; decide)).mono ?_; rintro e w3' ⟨rfl, rfl⟩; go_wp2; refine ⟨xs_, ?_⟩)
        rw [HF1.out]
        (refine anyB_one (i := 10) (by kernel_rfl) rfl rfl ?_; intro w4 hb4 K hK; obtain ⟨hc4, hf4⟩ := ifs_of hb4; have hs4 := hb4.size; (try simp at hs4); go_wp2; refine ⟨xs_, ?_⟩)
        (refine anyB_end (by kernel_rfl) ?_; intro w5 hb5; obtain ⟨hc5, hf5⟩ := ifs_of hb5; have hs5 := hb5.size; (try simp at hs5); simp only [Calm])
        go_wp2_with fail
        go_ret
        exact ⟨rfl, bl_⟩
end Go.Proofs.YtafnebfchhmgcaaGreat
/- Reference of the arm: Usable, On. -/
namespace Go.Proofs.YtafnebfchhmgcaaGreat
open Go.RowKit Go.Sort Go.Shelf
set_option linter.unusedSimpArgs false
set_option linter.unusedVariables false
attribute [local go_sem] cell_if frozen_if grow_cell
end Go.Proofs.YtafnebfchhmgcaaGreat
/- Reference of the arm: Voltage, Energy, Strictly, better. -/
namespace Go.Proofs.YtafnebfchhmgcaaGreat
open Go.RowKit Go.Sort Go.Shelf
set_option linter.unusedSimpArgs false
set_option linter.unusedVariables false
attribute [local go_sem] cell_if frozen_if grow_cell
theorem en_q {q : Int} (h : 0 ≤ q ∧ q ≤ 16384) : 0 ≤ q * q ∧ q * q ≤ 268435456 := ⟨Int.mul_nonneg h.1 h.1, Int.le_trans (Int.mul_le_mul h.2 h.2 h.1 (by decide)) (by decide)⟩
end Go.Proofs.YtafnebfchhmgcaaGreat
/- Reference of the arm: the best and the worst module of a list. -/
namespace Go.Proofs.YtafnebfchhmgcaaGreat
open Go.RowKit Go.Sort Go.Shelf
set_option linter.unusedSimpArgs false
set_option linter.unusedVariables false
attribute [local go_sem] cell_if frozen_if grow_cell
end Go.Proofs.YtafnebfchhmgcaaGreat
/- Reference of the arm: Spread. -/
namespace Go.Proofs.YtafnebfchhmgcaaGreat
open Go.RowKit Go.Sort Go.Shelf
set_option linter.unusedSimpArgs false
set_option linter.unusedVariables false
attribute [local go_sem] cell_if frozen_if grow_cell
end Go.Proofs.YtafnebfchhmgcaaGreat
/- The law's number and listed; Short of the reference. -/
namespace Go.Proofs.YtafnebfchhmgcaaGreat
open Go.RowKit Go.Sort Go.Shelf
set_option linter.unusedSimpArgs false
set_option linter.unusedVariables false
attribute [local go_sem] cell_if frozen_if grow_cell
theorem sameI_self : ∀ l : List Int, sameI l l = true
  | [] => rfl
  | x :: r => by rw [sameI, sameI_self r]; simp
def nm40 (l : List Md) : Bool := l.all fun x => decide (x.n.size ≤ 40)
def shortA (a : Ar) : Bool := nm40 a.m && (decide (a.m.length ≤ 8) || a.m.length == 17)
set_option maxHeartbeats 1000000 in
theorem Short_any (B : Nat) (A : Option Addr) (n c : Nat) (a : Ar) (w : World) (hM : MsAt w B A n a.m) (hB : B ≤ w.heap.size) (hn : n ≤ maxLen) :
    Calls Tryz.prog 27 #[.agg #[.slice A n c, .int .i64 a.lo, .int .i64 a.hi, .int .i64 a.cur, .int .i64 a.lim]] w fun e w' => e = .returned (.bool (shortA a)) ∧ Below w.heap.size w w' := by
  obtain ⟨hl, hat⟩ := md_at hM
  have HL := Lib.hid hl
  have HA := Lib.hid hat
  unfold maxLen at hn
  clear hl hat hM
  go_enter Tryz.func27, Tryz.ntmps27
  go_wp2_with fail
  go_loopw [3] (fun i wr => ∃ k : Nat, k ≤ n ∧ i = .int .i64 k ∧ Hid (nm40 a.m = nm40 (a.m.drop k)) ∧ Below w.heap.size w wr ∧ Blk wr w.heap.size 26 #[.slice A n c, .int .i64 a.lo, .int .i64 a.hi, .int .i64 a.cur, .int .i64 a.lim]) (fun i _ => n - (intOf i).toNat)
  case atStart => exact ⟨0, by omega, rfl, Lib.hid rfl, bl_, bk_⟩
  case round =>
    obtain ⟨k, hk, rfl, hg, hb, bA⟩ := hrel
    have hsr := hb.size
    have cA := bA.cell
    have lA := bA.lt
    have BA := Lib.hid bA
    clear bA
    by_cases hlt : k < n
    · have hkl : k < a.m.length := by rw [HL.out]; omega
      obtain ⟨b, o, eA, hbb, z0, _, _, _⟩ := HA.out k hkl
      have kb : ∀ i, wr.cell? ⟨b, i, none⟩ = w.cell? ⟨b, i, none⟩ := fun i => hb.cell (p := ⟨b, i, none⟩) (by simp; omega)
      rw [← kb] at z0
      clear kb
      have hbw : b < wr.heap.size := by omega
      have HD : Hid (nm40 (a.m.drop k) = (decide (a.m[k].n.size ≤ 40) && nm40 (a.m.drop (k + 1)))) := by
        rw [List.drop_eq_getElem_cons hkl]
        exact Lib.hid rfl
      subst eA
      generalize a.m[k] = x at *
      obtain ⟨xn, xq, xo, xb⟩ := x
      dsimp only at z0 HD
      by_cases hq : xn.size ≤ 40
      · have hq1 : ¬ (40 : Int) < (xn.size : Int) := by omega
        rw [decide_eq_true hq, Bool.true_and] at HD
        go_wp2_with fail
        go_roundw
        case rel => exact ⟨k + 1, by omega, by go_num, Lib.hid (hg.out.trans HD.out), hb, BA.out⟩
        case measure => simp [intOf]; omega
      · have hq1 : (40 : Int) < (xn.size : Int) := by omega
        rw [decide_eq_false hq, Bool.false_and] at HD
        go_wp2_with fail
        go_ret
        exact ⟨by unfold shortA; rw [hg.out, HD.out]; rfl, hb⟩
    · obtain rfl : k = n := by omega
      have HV : Hid (shortA a = (decide (k ≤ 8) || k == 17)) := by
        unfold shortA
        rw [hg.out, List.drop_eq_nil_of_le (by rw [HL.out]; exact Nat.le_refl _), HL.out]
        exact Lib.hid rfl
      by_cases h8 : k ≤ 8
      · have h8' : (k : Int) ≤ 8 := by omega
        go_wp2_with fail
        go_ret
        exact ⟨by rw [HV.out, decide_eq_true h8]; first | rfl | (simp; done), hb⟩
      · have h8' : ¬ (k : Int) ≤ 8 := by omega
        by_cases h17 : k = 17
        · have h17' : ((k : Int) == 17) = true := by subst h17; rfl
          go_wp2_with fail
          go_ret
          exact ⟨by rw [HV.out, h17]; rfl, hb⟩
        · have h17' : ((k : Int) == 17) = false := by simp; omega
          have h17n : (k == 17) = false := by simpa using h17
          go_wp2_with fail
          go_ret
          exact ⟨by rw [HV.out, decide_eq_false h8, h17n]; rfl, hb⟩
end Go.Proofs.YtafnebfchhmgcaaGreat
