/- A line's words, taken one by one. -/
import Derived.Test.YtphlojgmfkgeiaaGreatDoorTE
import Derived.Test.YtphlojgmfkgeiaaGreatDoorQP
import Derived.Test.YtphlojgmfkgeiaaGreatDoorKg
namespace Go.Proofs.YtphlojgmfkgeiaaGreatDoor
open Go.RowKit Go.Sort Go.Shelf
set_option linter.unusedSimpArgs false
set_option linter.unusedVariables false
attribute [local go_sem] cell_if frozen_if grow_cell
theorem Reads.exT {w w' : World} {B size n : Nat} {A : Option Addr} {xs : List Value} {X : List Nat} (h : Reads w B size A n xs) (hb : Ex X w w') (hX : ∀ k ∈ X, B ≤ k) (hB : B ≤ w.heap.size) : Reads w' B size A n xs :=
  h.keep fun p hp => World.cell?_of_block (w := w) (hb.block p.block (by omega) (fun hk => by have := hX _ hk; omega))
/-- The taker's box: what is left of the words, and whether something was wrong. -/
def TkAt (w : World) (bt : Nat) (st : List ByteArray × Bool) : Prop := ∃ A n c, Blk w bt 219 #[.slice A n c, .bool st.2] ∧ n ≤ c ∧ Reads w bt 1 A n (st.1.map .string)
theorem TkAt.kept {w w' : World} {bt : Nat} {st : List ByteArray × Bool} (h : TkAt w bt st) (hb : Below w.heap.size w w') : TkAt w' bt st := by
  obtain ⟨A, n, c, h1, h2, h3⟩ := h
  exact ⟨A, n, c, h1.kept hb, h2, h3.below (hb.mono (Nat.le_of_lt h1.lt))⟩
theorem TkAt.blk {w : World} {bt : Nat} {st : List ByteArray × Bool} (h : TkAt w bt st) : ∃ d, Blk w bt 219 d := by
  obtain ⟨A, n, c, h1, _⟩ := h
  exact ⟨_, h1⟩
theorem TkAt.ex {w w' : World} {bt : Nat} {st : List ByteArray × Bool} {X : List Nat} (h : TkAt w bt st) (hb : Ex X w w') (hX : ∀ k ∈ X, bt < k) : TkAt w' bt st := by
  obtain ⟨A, n, c, h1, h2, h3⟩ := h
  exact ⟨A, n, c, (hb.block bt h1.lt (fun hk => by have := hX _ hk; omega)).trans h1, h2, h3.exT hb (fun k hk => Nat.le_of_lt (hX k hk)) (Nat.le_of_lt h1.lt)⟩
set_option maxRecDepth 100000 in
set_option maxHeartbeats 2000000 in
theorem tword_any (bt : Nat) (st : List ByteArray × Bool) (w : World) (h : TkAt w bt st) (hn : st.1.length ≤ 100000) :
    Calls Tryz.prog 181 #[.pointer (some ⟨bt, 0, none⟩)] w fun e w' => e = .returned (.string (tk st).1) ∧ TkAt w' bt (tk st).2 ∧ Ex [bt] w w' := by
  obtain ⟨A, n, c, bk, hc, hr⟩ := h
  have cb := bk.cell
  have fb := bk.frozen
  have lb := bk.lt
  have hex1 : ∀ u, Ex [bt] w (w.setCell ⟨bt, 0, none⟩ u) := fun u => (Ex.refl [bt] w).set_in (p := ⟨bt, 0, none⟩) (.inl (List.mem_singleton.2 rfl)) u
  have hex : ∀ u v, Ex [bt] w ((w.setCell ⟨bt, 0, none⟩ u).setCell ⟨bt, 1, none⟩ v) := fun u v => (hex1 u).set_in (p := ⟨bt, 1, none⟩) (.inl (List.mem_singleton.2 rfl)) v
  have HX := Lib.hid hex
  have HX1 := Lib.hid hex1
  have HB := Lib.hid bk
  have HR := Lib.hid hr
  clear hex hex1 bk
  have hl : st.1.length = n := by have := hr.1; simpa using this
  obtain ⟨l, q⟩ := st
  have hno : Hid (∀ u v, u = Value.slice none 0 0 → v = Value.bool true → TkAt ((w.setCell ⟨bt, 0, none⟩ u).setCell ⟨bt, 1, none⟩ v) bt ([], true)) := Lib.hid fun u v hu hv => by
    subst hu hv
    exact ⟨none, 0, 0, (HB.out.set_ 0 _).set_ 1 _, Nat.le_refl _, Reads.nil_⟩
  cases l with
  | nil =>
    simp at hl
    subst hl
    rw [tk_nil]
    clear hr
    go_enter Tryz.func181, Tryz.ntmps181
    go_wp2_with fail
    go_ret
    exact ⟨rfl, hno.out _ _ rfl rfl, HX.out _ _⟩
  | cons x r =>
    simp at hl
    obtain ⟨b, o, rfl, hbb, hcl⟩ := hr.2 (by omega)
    have c0 := hcl 0 _ rfl
    obtain ⟨k, rfl⟩ : ∃ k, n = k + 1 := ⟨n - 1, by omega⟩
    simp at hl c0
    dsimp only at hn
    cases hx : (x.toList == []) with
    | true =>
      rw [tk_no hx]
      clear hr hcl
      go_enter Tryz.func181, Tryz.ntmps181
      go_wp2_with fail
      go_ret
      exact ⟨rfl, hno.out _ _ rfl rfl, HX.out _ _⟩
    | false =>
      rw [tk_ok hx]
      have HK : Hid (∀ o' c', k = 0 ∨ o' = o + 1 → k ≤ c' → TkAt (w.setCell ⟨bt, 0, none⟩ (.slice (some ⟨b, o', none⟩) k c')) bt (r, q)) := Lib.hid fun o' c' ho hc' => by
        refine ⟨some ⟨b, o', none⟩, k, c', HB.out.set_ 0 _, hc', by simp [hl], fun hk => ⟨b, o', rfl, hbb, fun j u hu => ?_⟩⟩
        have e := hcl (j + 1) u (by simpa using hu)
        obtain rfl : o' = o + 1 := by omega
        rw [show o + 1 + j = o + (j + 1) by omega, ← e]
        exact World.cell?_of_block (Below.heap_setCell w ⟨bt, 0, none⟩ _ b (by simp; omega))
      clear hr hcl
      by_cases hc1 : c = 1
      · subst hc1
        obtain rfl : k = 0 := by omega
        go_enter Tryz.func181, Tryz.ntmps181
        go_wp2_with fail
        go_ret
        exact ⟨rfl, HK.out _ _ (by simp) (Nat.zero_le _), HX1.out _⟩
      · obtain ⟨m, rfl⟩ : ∃ m, c = m + 1 + 1 := ⟨c - 2, by omega⟩
        have hkm : k ≤ m + 1 := by omega
        go_enter Tryz.func181, Tryz.ntmps181
        go_wp2_with fail
        go_ret
        exact ⟨rfl, HK.out _ _ (.inr rfl) hkm, HX1.out _⟩
theorem tk_len (st : List ByteArray × Bool) : (tk st).2.1.length ≤ st.1.length := by
  obtain ⟨l, q⟩ := st
  cases l with
  | nil => exact Nat.le_refl _
  | cons x r =>
    cases hx : (x.toList == []) with
    | true => rw [tk_no hx]; exact Nat.zero_le _
    | false => rw [tk_ok hx]; exact Nat.le_succ _
/-- The next word, which is to be one of two. -/
def tkE (st : List ByteArray × Bool) (yes no : List UInt8) : List ByteArray × Bool := ((tk st).2.1, (tk st).2.2 || !((tk st).1.toList == yes || (tk st).1.toList == no))
set_option maxRecDepth 100000 in
set_option maxHeartbeats 2000000 in
theorem teither_any (bt : Nat) (st : List ByteArray × Bool) (yes no : ByteArray) (w : World) (h : TkAt w bt st) (hn : st.1.length ≤ 100000) :
    Calls Tryz.prog 183 #[.pointer (some ⟨bt, 0, none⟩), .string yes, .string no] w fun e w' => e = .returned (.bool ((tk st).1.toList == yes.toList)) ∧ TkAt w' bt (tkE st yes.toList no.toList) ∧ Ex [bt] w w' := by
  have HW := Lib.hid (tword_any bt st w h hn)
  have hE : Hid (tkE st yes.toList no.toList = ((tk st).2.1, (tk st).2.2 || !((tk st).1.toList == yes.toList || (tk st).1.toList == no.toList))) := Lib.hid rfl
  clear h hn
  rw [hE.out]
  generalize (tk st).2 = tr at *
  generalize (tk st).1 = v at *
  obtain ⟨r, q⟩ := tr
  clear hE
  dsimp only
  cases h1 : (v.toList == yes.toList) <;> cases h2 : (v.toList == no.toList) <;> cases q
  all_goals
    go_enter Tryz.func183, Tryz.ntmps183
    go_wp2_with fail
    refine HW.out.mono ?_
    rintro e w1 ⟨rfl, ⟨A, n, c, bk, hc, hr⟩, hx⟩
    have cb := bk.cell
    have fb := bk.frozen
    have lb := bk.lt
    have HB := Lib.hid bk
    have HR := Lib.hid hr
    have HX := Lib.hid hx
    clear bk hr hx
    go_wp2_with fail
    go_ret
    exact ⟨rfl, ⟨A, n, c, HB.out.set_ 1 _, hc, HR.out.keep fun p hp => World.cell?_of_block (Below.heap_setCell w1 ⟨bt, 1, none⟩ _ p.block (by simp; omega))⟩, HX.out.set_in (p := ⟨bt, 1, none⟩) (.inl (List.mem_singleton.2 rfl)) _⟩
theorem firstE_two (a b : Int) : firstE [a, b] = or0 a b := by
  rw [firstE_cons, firstE_cons, firstE_nil]
  unfold or0
  split <;> simp_all
set_option maxRecDepth 100000 in
set_option maxHeartbeats 2000000 in
theorem rat_any (gy b0 bk : Nat) (A0 A1 A2 : Option Addr) (n0 n1 n2 c0 c1 c2 : Nat) (y : Yd) (kn : Int) (nm : ByteArray) (w : World) (hb0 : Blk w b0 215 #[.pointer (some ⟨gy, 0, none⟩)]) (hg : Blk w gy 41 #[.slice A0 n0 c0, .slice A1 n1 c1, .slice A2 n2 c2]) (hk : Blk w bk 34 #[.int .i64 kn]) (hY : YdAt w w.heap.size A0 A1 A2 n0 n1 n2 y) (h9 : n0 ≤ 400) (hsn : ∀ x ∈ y.s, x.n.size ≤ maxLen) (hnm : nm.size ≤ maxLen) :
    Calls Tryz.prog 182 #[.string nm, .pointer (some ⟨b0, 0, none⟩), .pointer (some ⟨bk, 0, none⟩)] w fun e w' => e = .returned (.int .i64 (secAtB y nm)) ∧ Blk w' bk 34 #[.int .i64 (or0 kn (whenE (decide (secAtB y nm < 0)) 10))] ∧ Ex [bk] w w' := by
  have HS := Lib.hid (section_any w.heap.size A0 A1 A2 n0 n1 n2 c0 c1 c2 y nm w hY (Nat.le_refl _) h9 hsn hnm)
  have HW := Lib.hid (fun W => pwhen_any (decide (secAtB y nm < 0)) 10 W)
  have HF := Lib.hid (firstE_two kn (whenE (decide (secAtB y nm < 0)) 10))
  clear hY h9 hsn hnm
  rw [← HF.out]
  generalize whenE (decide (secAtB y nm < 0)) 10 = ee at *
  generalize secAtB y nm = si at *
  have c0 := hb0.cell
  have cg := hg.cell
  have l0 := hb0.lt
  have lg := hg.lt
  have lk := hk.lt
  have HK := Lib.hid hk
  clear hb0 hg hk HF
  go_enter Tryz.func182, Tryz.ntmps182
  go_wp2_with fail
  refine HS.out.mono ?_
  (rintro e w1 ⟨rfl, hb1⟩; have hs1 := hb1.size; (try simp at hs1))
  have bk1 := HK.out.kept hb1
  have ck := bk1.cell
  have fk := bk1.frozen
  have lk1 := bk1.lt
  clear c0 cg l0 lg
  go_wp2_with fail
  (refine wp_region_calm [bk] [1, 2, 3] 4 (by kernel_rfl) rfl (by kernel_rfl) (by kernel_rfl) (by kernel_rfl) ?_; simp only [pickB, List.filterMap_cons, List.filterMap_nil, List.getElem?_toArray, List.getElem?_cons_zero, List.getElem?_cons_succ]; (repeat (first | ((first | (with_reducible refine quietL_plain rfl (fun K hK => ?_)) | (with_reducible refine quietL_want (by with_unfolding_all rfl) (fun K hK => ?_))); (apply Exists.intro; refine ⟨fun wx hx => ?_, ?_⟩; (· (have hcx := ifs_ex hx); simp [go_sem, *, ↓IntWalk.iteOmega] <;> (first | rfl | exact ⟨rfl, rfl⟩ | exact calls_B (calls_below (HW.out _)))); (simp only [Act.put, List.setIfInBounds_toArray, List.set_cons_zero, List.set_cons_succ]; refine hK _ ?_; clear hK K))) | ((with_reducible refine quietL_skip (by with_unfolding_all rfl) ?_); simp only [Act.put, List.setIfInBounds_toArray, List.set_cons_zero, List.set_cons_succ]))); refine quietL_nil ?_)
  (refine anyB_one (i := 0) (by kernel_rfl) rfl rfl ?_; intro w2 hb2 K hK; obtain ⟨hc2, hf2⟩ := ifs_of hb2; have hs2 := hb2.size; (try simp at hs2); go_wp2; refine ⟨xs_, ?_⟩)
  (refine anyB_one (i := 4) (by kernel_rfl) rfl rfl ?_; intro w3 hb3 K hK; obtain ⟨hc3, hf3⟩ := ifs_of hb3; have hs3 := hb3.size; (try simp at hs3); go_wp2; refine ⟨xs_, ?_⟩)
  (refine anyB_one (i := 5) (by kernel_rfl) rfl rfl ?_; intro w4 hb4 K hK; obtain ⟨hc4, hf4⟩ := ifs_of hb4; have hs4 := hb4.size; (try simp at hs4); go_wp2_with fail; refine (pfirst_any (w3.heap.size + 1) _ 2 2 [kn, ee] _ ((by simpa using Reads.new (size := 1) w3 (([kn, ee]).map (.int .i64)).toArray 34 2 rfl : Reads (w3.alloc (.cells (([kn, ee]).map (.int .i64)).toArray 34)) (w3.heap.size + 1) 1 (some ⟨w3.heap.size, 0, none⟩) 2 (([kn, ee]).map (.int .i64))).below (hb4.mono (by simp))) (by unfold maxLen; decide)).mono ?_; rintro e w4' ⟨rfl, rfl⟩; go_wp2; refine ⟨xs_, ?_⟩)
  refine anyB_one (i := 6) (by kernel_rfl) rfl rfl ?_
  intro w5 hb5 K hK
  have bk5 : Blk w5 bk 34 #[.int .i64 kn] := bk_
  have ck5 := bk5.cell
  have fk5 := bk5.frozen
  have lk5 := bk5.lt
  have HK6 := Lib.hid (bk5.set_ 0 (.int .i64 (firstE [kn, ee])))
  go_wp2
  refine ⟨xs_, ?_⟩
  refine anyB_end (by kernel_rfl) ?_
  intro w6 hb6
  simp only [Calm]
  have HK7 := Lib.hid (HK6.out.kept hb6)
  have hx : Ex [bk] w w6 := xs_
  have HX := Lib.hid hx
  clear hx
  go_wp2_with fail
  go_ret
  exact ⟨rfl, HK7.out, HX.out⟩
end Go.Proofs.YtphlojgmfkgeiaaGreatDoor
