/- Telegrams: the check of one, by the program. -/
import Derived.Test.YtafnebfchhmgcaaGreatN5
import Derived.Test.YtafnebfchhmgcaaGreatQm
namespace Go.Proofs.YtafnebfchhmgcaaGreat
open Go Go.RowKit Go.Sort Go.Shelf
set_option linter.unusedSimpArgs false
set_option linter.unusedVariables false
attribute [local go_sem] cell_if frozen_if grow_cell
/-- The numbers of a telegram that may be sent. -/
structure GoodTel (s c : Int) (V : Nat → Int) : Prop where
  s0 : 0 ≤ s
  s1 : s ≤ 255
  c0 : 0 ≤ c
  c1 : c ≤ 65535
  v0 : ∀ j, j < 4 → -32768 ≤ V j
  v1 : ∀ j, j < 4 → V j ≤ 32767
theorem within_any (n lo hi : Int) (w : World) : Calls Tryz.prog 74 #[.int .i64 n, .int .i64 lo, .int .i64 hi] w fun e w' => e = .returned (.int .i64 (ckR n lo hi)) ∧ w = w' := by
  by_cases h1 : n < lo
  · have e := ckR_no (n := n) (lo := lo) (hi := hi) (.inl h1)
    (rw [e]; clear e; go_enter Tryz.func74, Tryz.ntmps74; go_wp2; go_ret; exact ⟨by first | rfl | (simp; done) | (simp; omega), rfl⟩)
  · by_cases h2 : hi < n
    · have e := ckR_no (n := n) (lo := lo) (hi := hi) (.inr h2)
      (rw [e]; clear e; go_enter Tryz.func74, Tryz.ntmps74; go_wp2; go_ret; exact ⟨by first | rfl | (simp; done) | (simp; omega), rfl⟩)
    · have e := ckR_yes (n := n) (lo := lo) (hi := hi) (by omega)
      (rw [e]; clear e; go_enter Tryz.func74, Tryz.ntmps74; go_wp2; go_ret; exact ⟨by first | rfl | (simp; done) | (simp; omega), rfl⟩)
theorem within_b (n lo hi : Int) (w : World) : Calls Tryz.prog 74 #[.int .i64 n, .int .i64 lo, .int .i64 hi] w fun e w' => e = .returned (.int .i64 (ckR n lo hi)) ∧ Below w.heap.size w w' := calls_below (within_any n lo hi w)
theorem clos_tel (z : Int) (w : World) : Calls Tryz.prog 121 #[.int .i64 z] w fun e w' => e = .returned (.int .i64 (ckR z (-32768) 32767)) ∧ w = w' := by
  go_enter Tryz.func121, Tryz.ntmps121
  go_wp2_with (go_at_call 74; refine (within_any _ _ _ _).mono ?_; rintro e w1 ⟨rfl, rfl⟩)
  go_ret
  exact ⟨rfl, rfl⟩
theorem map_snocT {α β : Type} (f : α → β) (l : List α) (k : Nat) (h : k < l.length) : (l.map f).take (k + 1) = (l.map f).take k ++ [f l[k]] := by
  rw [List.take_succ_eq_append_getElem (by simpa using h), List.getElem_map]
set_option maxRecDepth 100000 in
set_option maxHeartbeats 1000000 in
theorem mapTE_any (B : Nat) (A : Option Addr) (n c : Nat) (zs : List Int) (w : World) (hr : Reads w B 1 A n (zs.map (.int .i64))) (hB : B ≤ w.heap.size) (hn : n ≤ 1000) :
    Calls Tryz.prog 120 #[.slice A n c, .func (.func 121) #[] #[]] w (MapRes 31 w (zs.map fun z => Value.int .i64 (ckR z (-32768) 32767))) := by
  have hl : zs.length = n := by simpa using hr.1
  have Hl := Lib.hid hl; clear hl
  have HR := Lib.hid hr; clear hr
  go_enter Tryz.func120, Tryz.ntmps120
  go_wp2
  go_loopw [5, 10] (fun v i wr => ∃ k : Nat, k ≤ n ∧ i = .int .i64 k ∧ wr.ownsRow w.heap.size 31 1 v k ((zs.map fun z => Value.int .i64 (ckR z (-32768) 32767)).take k) ∧ Below w.heap.size w wr) (fun _ i _ => n - (intOf i).toNat)
  case atStart => exact ⟨0, Nat.zero_le _, rfl, World.ownsRow_nil _ _ _ _, Below.refl _ _⟩
  case round =>
    obtain ⟨k, hk, rfl, hown, hb⟩ := hrel
    have hsb := hb.size
    have HO := Lib.hid hown
    clear hown
    by_cases hlt : k < n
    · obtain ⟨b, o, u, rfl, _, hu, hc⟩ := (HR.out.below (hb.mono hB)).at_ hlt
      have hkl : k < zs.length := by rw [Hl.out]; exact hlt
      obtain rfl : u = .int .i64 zs[k] := by simpa [hkl] using hu.symm
      have Hd := Lib.hid (map_snocT (fun z => Value.int .i64 (ckR z (-32768) 32767)) zs k hkl)
      clear hu
      generalize zs[k] = z at *
      go_wp2_with (first | (go_at_call 121; refine (clos_tel _ _).mono ?_; rintro e w1 ⟨rfl, rfl⟩) | (at_builtin; refine wpList_app 187 31 1 8 elemErrno rfl (.tmp 14) (.tmp 18) rfl w.heap.size _ k _ rfl HO.out 1 rfl rfl ?h1 (by decide) ?h3 (by omega) hsb ?_))
      case h1 => rfl
      case h3 => unfold maxLen; omega
      intro g' cap' w' hown' hb' _ hs'
      go_wp2
      go_roundw
      case rel => exact ⟨k + 1, by omega, by go_num, by rw [Hd.out]; exact hown', hb.trans hb'⟩
      case measure => simp [intOf]; omega
    · obtain rfl : k = n := by omega
      have HL2 := Lib.hid Hl.out
      go_wp2
      go_ret
      refine ⟨_, rfl, ?_, hb⟩
      have := HO.out
      rw [List.take_of_length_le (by rw [List.length_map, HL2.out]; exact Nat.le_refl _)] at this
      rw [List.length_map, HL2.out]
      exact this
theorem tel_e (V : Nat → Int) (h0 : ∀ j, j < 4 → -32768 ≤ V j) (h1 : ∀ j, j < 4 → V j ≤ 32767) : firstE ([V 0, V 1, V 2, V 3].map fun z => ckR z (-32768) 32767) = 0 := by
  have a0 := ckR_yes ⟨h0 0 (by omega), h1 0 (by omega)⟩
  have a1 := ckR_yes ⟨h0 1 (by omega), h1 1 (by omega)⟩
  have a2 := ckR_yes ⟨h0 2 (by omega), h1 2 (by omega)⟩
  have a3 := ckR_yes ⟨h0 3 (by omega), h1 3 (by omega)⟩
  simp [firstE, a0, a1, a2, a3]
set_option maxRecDepth 100000 in
set_option maxHeartbeats 1000000 in
theorem CheckTelegram_any (s c : Int) (V : Nat → Int) (w : World) (h : GoodTel s c V) :
    Calls Tryz.prog 70 #[.agg #[.int .i64 s, .int .i64 c, .int .i64 (V 0), .int .i64 (V 1), .int .i64 (V 2), .int .i64 (V 3)]] w fun e w' => e = .returned (.int .i64 0) ∧ Below w.heap.size w w' := by
  have e1 := Lib.hid (ckR_yes ⟨h.s0, h.s1⟩)
  have e2 := Lib.hid (ckR_yes ⟨h.c0, h.c1⟩)
  have e3 := Lib.hid (tel_e V h.v0 h.v1)
  clear h
  go_enter Tryz.func70, Tryz.ntmps70
  go_upto_region 1 with fail
  refine wp_world ?_
  intro W0 hW0
  have HA := Lib.hid (show Blk W0 w.heap.size 71 #[.int .i64 s, .int .i64 c, .int .i64 (V 0), .int .i64 (V 1), .int .i64 (V 2), .int .i64 (V 3)] from by rw [hW0]; exact Blk.new _ _ _)
  have HL := Lib.hid (show Below w.heap.size w W0 from by rw [hW0]; exact bl_)
  clear hW0
  have cA := HA.out.cell
  have lA := HA.out.lt
  go_cut [3] (fun s3 wx => s3 = .int .i64 0 ∧ Below W0.heap.size W0 wx)
  case first =>
    go_wp2_with fail
    (refine wp_region_calm [] [0, 1, 2, 3, 4, 5] 3 (by kernel_rfl) rfl (by kernel_rfl) (by kernel_rfl) (by kernel_rfl) ?_; simp only [pickB, List.filterMap_cons, List.filterMap_nil, List.getElem?_toArray, List.getElem?_cons_zero, List.getElem?_cons_succ]; (repeat (first | ((first | (with_reducible refine quietL_plain rfl (fun K hK => ?_)) | (with_reducible refine quietL_want (by with_unfolding_all rfl) (fun K hK => ?_))); (apply Exists.intro; refine ⟨fun wx hx => ?_, ?_⟩; (· (have hcx := ifs_ex hx); simp [go_sem, *, ↓IntWalk.iteOmega] <;> (first | rfl | exact ⟨rfl, rfl⟩ | (with_reducible exact calls_B (within_b _ _ _ _)))); (simp only [Act.put, List.setIfInBounds_toArray, List.set_cons_zero, List.set_cons_succ]; refine hK _ ?_; clear hK K))) | ((with_reducible refine quietL_skip (by with_unfolding_all rfl) ?_); simp only [Act.put, List.setIfInBounds_toArray, List.set_cons_zero, List.set_cons_succ]))); refine quietL_nil ?_)
    rw [e1.out, e2.out]
    refine anyB_one (i := 6) (by kernel_rfl) rfl rfl ?_
    intro w1 hb1 K hK
    have HP1 := Lib.hid (hb1.trans (((Below.refl _ _).alloc (Nat.le_refl _) (.cells #[.int .i64 0, .int .i64 0] 31)).mono hb1.size))
    have HF := Lib.hid (Blk.new w1 31 #[.int .i64 0, .int .i64 0])
    go_wp2
    refine ⟨Ex.of_below HP1.out, ?_⟩
    clear hb1
    refine anyB_one (i := 7) (by kernel_rfl) rfl rfl ?_
    intro w2 hb2 K hK
    have HP2 := Lib.hid (HP1.out.trans (hb2.mono HP1.out.size))
    have HF2 := HF.out.kept hb2
    have hr2 : Reads w2 (w1.heap.size + 1) 1 (some ⟨w1.heap.size, 0, none⟩) 2 (([0, 0] : List Int).map (.int .i64)) := Reads.blk HF2 rfl
    go_wp2_with fail
    refine (pfirst_any _ _ 2 2 [0, 0] w2 hr2 (by unfold maxLen; omega)).mono ?_
    rw [show firstE [0, 0] = 0 from rfl]
    rintro e w3 ⟨rfl, rfl⟩
    go_wp2
    have hx2 := Ex.of_below (X := []) HP2.out
    refine ⟨hx2, ?_⟩
    clear hb2
    (refine anyB_one (i := 8) (by kernel_rfl) rfl rfl ?_; intro w4 hb4 K hK; have hs4 := hb4.size; (try simp at hs4); go_wp2; refine ⟨xs_, ?_⟩)
    (refine anyB_end (by kernel_rfl) ?_; intro w5 hb5; have hs5 := hb5.size; (try simp at hs5); simp only [Calm])
    have HP5 := Lib.hid ((HP2.out.trans (hb4.mono HP2.out.size)).trans (hb5.mono (by have := HP2.out.size; omega)))
    go_wp2_with fail
    go_meet
    case rel => exact ⟨rfl, HP5.out⟩
  rename World => W1
  obtain ⟨rfl, hb⟩ := hcut
  have HA1 := Lib.hid (HA.out.kept hb)
  have HL1 := Lib.hid (HL.out.trans (hb.mono HL.out.size))
  clear cA lA hb HA HL
  have cA := HA1.out.cell
  have lA := HA1.out.lt
  go_wp2_with fail
  refine (mapTE_any (w.heap.size + 1) _ 4 4 [V 0, V 1, V 2, V 3] W1 (Reads.blk_at (pre := [.int .i64 s, .int .i64 c]) (post := []) HA1.out rfl rfl rfl) lA (by omega)).mono ?_
  rintro e W2 ⟨v, rfl, ho, hb⟩
  obtain ⟨A2, cap2, rfl, _, _, hr2⟩ := own_form ho
  have HL2 := Lib.hid (HL1.out.trans (hb.mono HL1.out.size))
  have HR2 : Hid (Reads W2 W2.heap.size 1 A2 4 ((([V 0, V 1, V 2, V 3] : List Int).map fun z => ckR z (-32768) 32767).map (.int .i64))) := Lib.hid (by rw [List.map_map]; exact hr2)
  clear ho hb hr2 cA lA
  go_wp2_with fail
  refine (pfirst_any _ _ 4 cap2 _ _ HR2.out (by unfold maxLen; omega)).mono ?_
  rw [e3.out]
  rintro e w4 ⟨rfl, rfl⟩
  go_wp2_with fail
  go_ret
  exact ⟨rfl, HL2.out⟩
end Go.Proofs.YtafnebfchhmgcaaGreat
