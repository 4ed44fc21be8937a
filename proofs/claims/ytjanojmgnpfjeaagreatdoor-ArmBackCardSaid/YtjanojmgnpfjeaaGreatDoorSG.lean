/- A line's words, taken one by one: the arm's taker. -/
import Derived.Laws.RangeAny
import Derived.Laws.RangeString
import Derived.Test.YtjanojmgnpfjeaaGreatDoorSF
import Derived.Test.YtjanojmgnpfjeaaGreatDoorQa
namespace Go.Proofs.YtjanojmgnpfjeaaGreatDoor
open Go.RowKit Go.Sort Go.Shelf
set_option linter.unusedSimpArgs false
set_option linter.unusedVariables false
attribute [local go_sem] cell_if frozen_if grow_cell
theorem Reads.exT {w w' : World} {B size n : Nat} {A : Option Addr} {xs : List Value} {X : List Nat} (h : Reads w B size A n xs) (hb : Ex X w w') (hX : ∀ k ∈ X, B ≤ k) (hB : B ≤ w.heap.size) : Reads w' B size A n xs :=
  h.keep fun p hp => World.cell?_of_block (w := w) (hb.block p.block (by omega) (fun hk => by have := hX _ hk; omega))
/-- The taker's box: what is left of the words, and whether something was wrong. -/
def TkAt (w : World) (bt L : Nat) (st : List ByteArray × Bool) : Prop := ∃ A n c, Blk w bt 199 #[.slice A n c, .bool st.2] ∧ n ≤ c ∧ Reads w bt 1 A n (st.1.map .string) ∧ ∀ a, A = some a → L ≤ a.block
theorem TkAt.kept {w w' : World} {bt L : Nat} {st : List ByteArray × Bool} (h : TkAt w bt L st) (hb : Below w.heap.size w w') : TkAt w' bt L st := by
  obtain ⟨A, n, c, h1, h2, h3, h4⟩ := h
  exact ⟨A, n, c, h1.kept hb, h2, h3.below (hb.mono (Nat.le_of_lt h1.lt)), h4⟩
theorem TkAt.blk {w : World} {bt L : Nat} {st : List ByteArray × Bool} (h : TkAt w bt L st) : ∃ d, Blk w bt 199 d := by
  obtain ⟨A, n, c, h1, _⟩ := h
  exact ⟨_, h1⟩
theorem TkAt.low {w : World} {bt L k : Nat} {st : List ByteArray × Bool} (h : TkAt w bt L st) (hk : k < L) (hb : k < bt) (i : Nat) (u : Value) : TkAt (w.setCell ⟨k, i, none⟩ u) bt L st := by
  obtain ⟨A, n, c, h1, h2, ⟨h3, h3'⟩, h4⟩ := h
  refine ⟨A, n, c, h1.far (p := ⟨k, i, none⟩) (show bt ≠ k by omega) u, h2, ⟨h3, fun hn => ?_⟩, h4⟩
  obtain ⟨b, o, e, hbb, hcl⟩ := h3' hn
  have hLb := h4 _ e
  refine ⟨b, o, e, hbb, fun j v hv => ?_⟩
  rw [← hcl j v hv]
  exact World.cell?_of_block (Below.heap_setCell w ⟨k, i, none⟩ _ b (by have : L ≤ b := hLb; show b ≠ k; omega))
theorem TkAt.ex {w w' : World} {bt L : Nat} {st : List ByteArray × Bool} {X : List Nat} (h : TkAt w bt L st) (hb : Ex X w w') (hX : ∀ k ∈ X, bt < k) : TkAt w' bt L st := by
  obtain ⟨A, n, c, h1, h2, h3, h4⟩ := h
  exact ⟨A, n, c, (hb.block bt h1.lt (fun hk => by have := hX _ hk; omega)).trans h1, h2, h3.exT hb (fun k hk => Nat.le_of_lt (hX k hk)) (Nat.le_of_lt h1.lt), h4⟩
set_option maxRecDepth 100000 in
set_option maxHeartbeats 2000000 in
theorem tword_any (bt L : Nat) (st : List ByteArray × Bool) (w : World) (h : TkAt w bt L st) (hn : st.1.length ≤ 100000) :
    Calls Tryz.prog 140 #[.pointer (some ⟨bt, 0, none⟩)] w fun e w' => e = .returned (.string (tk st).1) ∧ TkAt w' bt L (tk st).2 ∧ Ex [bt] w w' := by
  obtain ⟨A, n, c, bk, hc, hr, hL⟩ := h
  have cb := bk.cell
  have fb := bk.frozen
  have lb := bk.lt
  have hex1 : ∀ u, Ex [bt] w (w.setCell ⟨bt, 0, none⟩ u) := fun u => (Ex.refl [bt] w).set_in (p := ⟨bt, 0, none⟩) (.inl (List.mem_singleton.2 rfl)) u
  have hex : ∀ u v, Ex [bt] w ((w.setCell ⟨bt, 0, none⟩ u).setCell ⟨bt, 1, none⟩ v) := fun u v => (hex1 u).set_in (p := ⟨bt, 1, none⟩) (.inl (List.mem_singleton.2 rfl)) v
  have HX := Lib.hid hex
  have HX1 := Lib.hid hex1
  have HB := Lib.hid bk
  have HR := Lib.hid hr
  clear hex hex1 bk
  have hl : st.1.length = n := by have := hr.1; simpa using this
  obtain ⟨l, q⟩ := st
  have hno : Hid (∀ u v, u = Value.slice none 0 0 → v = Value.bool true → TkAt ((w.setCell ⟨bt, 0, none⟩ u).setCell ⟨bt, 1, none⟩ v) bt L ([], true)) := Lib.hid fun u v hu hv => by
    subst hu hv
    exact ⟨none, 0, 0, (HB.out.set_ 0 _).set_ 1 _, Nat.le_refl _, Reads.nil_, fun a e => by cases e⟩
  cases l with
  | nil =>
    simp at hl
    subst hl
    rw [tk_nil]
    clear hr
    go_enter Tryz.func140, Tryz.ntmps140
    go_wp2_with fail
    go_ret
    exact ⟨rfl, hno.out _ _ rfl rfl, HX.out _ _⟩
  | cons x r =>
    simp at hl
    obtain ⟨b, o, rfl, hbb, hcl⟩ := hr.2 (by omega)
    have c0 := hcl 0 _ rfl
    obtain ⟨k, rfl⟩ : ∃ k, n = k + 1 := ⟨n - 1, by omega⟩
    simp at hl c0
    dsimp only at hn
    cases hx : (x.toList == []) with
    | true =>
      rw [tk_no hx]
      clear hr hcl
      go_enter Tryz.func140, Tryz.ntmps140
      go_wp2_with fail
      go_ret
      exact ⟨rfl, hno.out _ _ rfl rfl, HX.out _ _⟩
    | false =>
      rw [tk_ok hx]
      have HK : Hid (∀ o' c', k = 0 ∨ o' = o + 1 → k ≤ c' → TkAt (w.setCell ⟨bt, 0, none⟩ (.slice (some ⟨b, o', none⟩) k c')) bt L (r, q)) := Lib.hid fun o' c' ho hc' => by
        refine ⟨some ⟨b, o', none⟩, k, c', HB.out.set_ 0 _, hc', ⟨by simp [hl], fun hk => ⟨b, o', rfl, hbb, fun j u hu => ?_⟩⟩, fun a e => by cases e; exact hL ⟨b, o, none⟩ rfl⟩
        have e := hcl (j + 1) u (by simpa using hu)
        obtain rfl : o' = o + 1 := by omega
        rw [show o + 1 + j = o + (j + 1) by omega, ← e]
        exact World.cell?_of_block (Below.heap_setCell w ⟨bt, 0, none⟩ _ b (by simp; omega))
      clear hr hcl
      by_cases hc1 : c = 1
      · subst hc1
        obtain rfl : k = 0 := by omega
        go_enter Tryz.func140, Tryz.ntmps140
        go_wp2_with fail
        go_ret
        exact ⟨rfl, HK.out _ _ (by simp) (Nat.zero_le _), HX1.out _⟩
      · obtain ⟨m, rfl⟩ : ∃ m, c = m + 1 + 1 := ⟨c - 2, by omega⟩
        have hkm : k ≤ m + 1 := by omega
        go_enter Tryz.func140, Tryz.ntmps140
        go_wp2_with fail
        go_ret
        exact ⟨rfl, HK.out _ _ (.inr rfl) hkm, HX1.out _⟩
/-- What the program's integer gives, and whether it is one. -/
def rawV (s : ByteArray) : Int := if s.data.toList.all digB && decide (s.data.toList.length ≤ 9) then decV s.data.toList else 0
theorem raw_ok {s : ByteArray} (h : intOk s.data.toList = true) : rawV s = decV s.data.toList := by
  unfold intOk at h
  simp only [Bool.and_eq_true] at h
  unfold rawV
  rw [if_pos (by rw [Bool.and_eq_true]; exact ⟨h.1.2, h.1.1.2⟩)]
theorem dig_z {c : UInt8} {z : Int} (h : (c.toNat : Int) = z) : digB c = decide (48 ≤ z ∧ z ≤ 57) := by
  subst h
  unfold digB
  rw [Bool.eq_iff_iff]
  simp [UInt8.le_iff_toNat_le]
  omega
theorem take_at (s : ByteArray) {p : Nat} (hp : p < s.size) : s.data.toList.take (p + 1) = s.data.toList.take p ++ [s[p]] := by
  rw [List.take_succ_eq_append_getElem (by simpa using hp)]
  rfl
/-- Refused: a byte that is no digit, or too many of them. -/
theorem int_no {s : ByteArray} (h : s.data.toList.all digB = false ∨ 9 < s.size) : intOk s.data.toList = false ∧ rawV s = 0 := by
  have e : s.data.toList.length = s.size := by simp
  rcases h with h | h
  · unfold intOk rawV
    rw [h]
    simp
  · unfold intOk rawV
    rw [show decide (s.data.toList.length ≤ 9) = false from by rw [e]; simpa using h]
    simp
theorem all_no {s : ByteArray} {p : Nat} (hp : p < s.size) (h : digB s[p] = false) : s.data.toList.all digB = false := by
  rw [List.all_eq_false]
  refine ⟨s[p], ?_, by rw [h]; decide⟩
  have : s[p] = s.data.toList[p]'(by simpa using hp) := rfl
  rw [this]
  exact List.getElem_mem _
theorem digs_bd {s : ByteArray} {p : Nat} (h : (s.data.toList.take p).all digB = true) (hp : p ≤ 9) : 0 ≤ digV 0 (s.data.toList.take p) ∧ digV 0 (s.data.toList.take p) ≤ 1000000000 := by
  obtain ⟨h1, h2⟩ := digV_bd _ 0 (Int.le_refl _) h
  refine ⟨h1, ?_⟩
  have hl : (s.data.toList.take p).length ≤ 9 := by simp; omega
  have hq : ∀ k, k ≤ 9 → pow10 k ≤ 1000000000 := by
    intro k hk
    match k, hk with
    | 0, _ => decide
    | 1, _ => decide
    | 2, _ => decide
    | 3, _ => decide
    | 4, _ => decide
    | 5, _ => decide
    | 6, _ => decide
    | 7, _ => decide
    | 8, _ => decide
    | 9, _ => decide
    | k + 10, h => omega
  have := hq _ hl
  omega
theorem zero_one {s : ByteArray} (h : s.size = 1) : zeroB s.data.toList = false := by
  have e : s.data.toList.length = 1 := by simpa using h
  match hl : s.data.toList, e with
  | [x], _ => rfl
theorem zero_more {s : ByteArray} (h : 1 < s.size) : zeroB s.data.toList = (s[0] == 48) := by
  have e : s.data.toList.length = s.size := by simp
  have e0 : s[0] = s.data.toList[0]'(by omega) := rfl
  match hl : s.data.toList, e with
  | [], e => simp at e; omega
  | [x], e => simp at e; omega
  | x :: y :: r, e =>
    have : s[0] = x := by rw [e0]; simp [hl]
    rw [this]; rfl
set_option maxRecDepth 100000 in
set_option maxHeartbeats 4000000 in
theorem aint_any (s : ByteArray) (w : World) (hs : s.size ≤ maxLen) :
    Calls Tryz.prog 184 #[.string s] w fun e w' => e = .returned (.tuple #[.int .i64 (rawV s), .bool (intOk s.data.toList)]) ∧ Below w.heap.size w w' := by
  unfold maxLen at hs
  have Hno := Lib.hid (int_no (s := s))
  have Hbd := Lib.hid (fun p => digs_bd (s := s) (p := p))
  have Hall := Lib.hid (fun p hp => all_no (s := s) (p := p) hp)
  have HIt : Hid (∀ p, Below w.heap.size w (w.iter s p) ∧ w.heap.size ≤ (w.iter s p).heap.size) := Lib.hid (fun p => have h : Below w.heap.size w (w.iter s p) := (Below.refl w.heap.size w).alloc (Nat.le_refl _) _; ⟨h, h.size⟩)
  have Htk := Lib.hid (fun p hp => take_at s (p := p) hp)
  go_enter Tryz.func184, Tryz.ntmps184
  go_wp2_with fail
  go_loopw [4, 6] (fun s4 _ wr => ∃ p : Nat, p ≤ s.size ∧ wr = w.iter s p ∧ s4 = .int .i64 (digV 0 (s.data.toList.take p)) ∧ (s.data.toList.take p).all digB = true ∧ (0 < p → s.size ≤ 9)) (fun _ _ wr => s.size - wr.iterPos w.heap.size)
  case atStart => exact ⟨0, by omega, rfl, rfl, rfl, fun h => absurd h (by omega)⟩
  case round =>
    obtain ⟨p, hp, rfl, rfl, hf, h9⟩ := hrel
    have Hf := Lib.hid hf; clear hf
    have H9 := Lib.hid h9; clear h9
    by_cases hlt : p < s.size
    · by_cases ha : (s[p]).toNat < 128
      · have hnx : ∀ ty, (Instr.next (.pointer (some ⟨w.heap.size, 0, none⟩)) true ty).run Tryz.prog (w.iter s p) = _ := fun ty => run_next_ascii w s p ty hlt ha
        obtain ⟨z, hz⟩ : ∃ z : Int, ((s[p]).toNat : Int) = z := ⟨_, rfl⟩
        rw [hz] at hnx
        have Hl := Lib.hid (dig_z hz)
        have hz0 : 0 ≤ z := by omega
        have hz1 : z < 128 := by omega
        have HZ := Lib.hid hz
        clear hz ha
        by_cases hs9 : 9 < s.size
        · have d9 : decide (9 < (s.size : Int)) = true := by simp; omega
          have hh := Hno.out (.inr hs9)
          have HH := Lib.hid hh
          have Hz0 := Lib.hid hz0
          have Hz1 := Lib.hid hz1
          rcases (show z < 48 ∨ (48 ≤ z ∧ z ≤ 57) ∨ 57 < z from by omega) with h | h | h
          all_goals
            (first | (have t5 : decide (z < 48) = true := by simp; omega) | (have t5 : decide (z < 48) = false := by simp; omega))
            (first | (have t6 : decide (57 < z) = true := by simp; omega) | (have t6 : decide (57 < z) = false := by simp; omega))
            clear h hz0 hz1 hh hs9
            go_wp2
            go_ret2
            exact ⟨by simp only [HH.out.1, HH.out.2]; rfl, (Below.refl w.heap.size w).alloc (Nat.le_refl _) _⟩
        · have d9 : decide (9 < (s.size : Int)) = false := by simp; omega
          have HS9 := Lib.hid hs9
          rcases (show (z < 48 ∨ 57 < z) ∨ (48 ≤ z ∧ z ≤ 57) from by omega) with h | h
          · have hh := Hno.out (.inl (Hall.out p hlt (by rw [Hl.out]; simp; omega)))
            have HH := Lib.hid hh
            rcases h with h | h
            all_goals
              (first | (have t5 : decide (z < 48) = true := by simp; omega) | (have t5 : decide (z < 48) = false := by simp; omega))
              (first | (have t6 : decide (57 < z) = true := by simp; omega) | (have t6 : decide (57 < z) = false := by simp; omega))
              clear h hz0 hz1 hh hs9
              go_wp2
              go_ret2
              exact ⟨by simp only [HH.out.1, HH.out.2]; rfl, (Below.refl w.heap.size w).alloc (Nat.le_refl _) _⟩
          · have t5 : decide (z < 48) = false := by simp; omega
            have t6 : decide (57 < z) = false := by simp; omega
            obtain ⟨hb1, hb2⟩ := Hbd.out p Hf.out (by omega)
            have hnew : Hid (digV 0 (s.data.toList.take (p + 1)) = 10 * digV 0 (s.data.toList.take p) + (z - 48)) := Lib.hid (by rw [Htk.out p hlt, digV_snoc, HZ.out])
            have hall : Hid ((s.data.toList.take (p + 1)).all digB = true) := Lib.hid (by rw [Htk.out p hlt, List.all_append, Hf.out, List.all_cons, Hl.out]; simp; omega)
            generalize hv : digV 0 (s.data.toList.take p) = v at *
            have HVV := Lib.hid hv
            clear hv
            have HH := Lib.hid h
            have e1 : IntKind.i64.wrap (10 * v) = 10 * v := by rw [IntKind.wrap_i64]; omega
            have e2 : IntKind.i32.wrap (z - 48) = z - 48 := by rw [IntKind.wrap_i32]; omega
            have e3 : IntKind.i64.wrap (z - 48) = z - 48 := by rw [IntKind.wrap_i64]; omega
            have e4 : IntKind.i64.wrap (10 * v + (z - 48)) = 10 * v + (z - 48) := by rw [IntKind.wrap_i64]; omega
            clear h hb1 hb2 hz0 hz1 hs9
            go_wp2
            go_roundw
            case rel => exact ⟨p + 1, by omega, rfl, by rw [hnew.out], hall.out, fun _ => by have := HS9.out; omega⟩
            case measure => simp; omega
      · have hnx : ∀ ty, (Instr.next (.pointer (some ⟨w.heap.size, 0, none⟩)) true ty).run Tryz.prog (w.iter s p) = _ := fun ty => run_next_any w s p ty hlt
        have hh := (decode_high s p hlt (by omega)).1
        have hq : digB s[p] = false := by
          rw [dig_z (c := s[p]) rfl]
          simp
          omega
        have hn := Hno.out (.inl (Hall.out p hlt hq))
        have HH := Lib.hid hn
        obtain ⟨z, hz'⟩ : ∃ z : Int, ((Utf8.decode s p).1 : Int) = z := ⟨_, rfl⟩
        rw [hz'] at hnx
        have t5 : decide (z < 48) = false := by simp; omega
        have t6 : decide (57 < z) = true := by simp; omega
        clear hz' hh ha hq hn
        by_cases hs9 : 9 < (s.size : Int)
        all_goals
          go_wp2
          go_ret2
          exact ⟨by simp only [HH.out.1, HH.out.2]; rfl, (Below.refl w.heap.size w).alloc (Nat.le_refl _) _⟩
    · have hnx : ∀ ty, (Instr.next (.pointer (some ⟨w.heap.size, 0, none⟩)) true ty).run Tryz.prog (w.iter s p) = _ := fun ty => run_next_end w s p ty hlt
      obtain rfl : p = s.size := by omega
      have ht : s.data.toList.take s.size = s.data.toList := List.take_of_length_le (by simp)
      have HA : Hid (s.data.toList.all digB = true) := Lib.hid (by have := Hf.out; rw [ht] at this; exact this)
      rw [ht]
      have hlen : s.data.toList.length = s.size := by simp
      have HLN := Lib.hid hlen
      clear hlen ht
      by_cases h0 : s.size = 0
      · obtain ⟨e1, e2⟩ := str_nil h0
        have HE : Hid (s.data.toList = []) := Lib.hid (List.length_eq_zero_iff.1 (by rw [HLN.out]; exact h0))
        have HH : Hid (intOk s.data.toList = false ∧ rawV s = digV 0 s.data.toList) := Lib.hid (by unfold rawV; rw [HE.out]; exact ⟨rfl, rfl⟩)
        have H0 := Lib.hid h0
        clear h0
        go_wp2
        (refine wp_region_calm [] [0, 1, 2, 3, 4, 5, 6, 7, 8, 9, 10, 11, 12, 13, 14] 0 (by kernel_rfl) rfl (by kernel_rfl) (by kernel_rfl) (by kernel_rfl) ?_; simp only [pickB, List.filterMap_cons, List.filterMap_nil, List.getElem?_toArray, List.getElem?_cons_zero, List.getElem?_cons_succ]; (repeat (first | ((first | (with_reducible refine quietL_plain rfl (fun K hK => ?_)) | (with_reducible refine quietL_want (by with_unfolding_all rfl) (fun K hK => ?_))); (apply Exists.intro; refine ⟨fun wx hx => ?_, ?_⟩; (· (have hcx := ifs_ex hx); simp [go_sem, *, ↓IntWalk.iteOmega] <;> (first | rfl | exact ⟨rfl, rfl⟩ | fail)); (simp only [Act.put, List.setIfInBounds_toArray, List.set_cons_zero, List.set_cons_succ]; refine hK _ ?_; clear hK K))) | ((with_reducible refine quietL_skip (by with_unfolding_all rfl) ?_); simp only [Act.put, List.setIfInBounds_toArray, List.set_cons_zero, List.set_cons_succ]))); refine quietL_nil ?_)
        (refine anyB_end (by kernel_rfl) ?_; intro w7 hb7; have hs7 := hb7.size; (try simp at hs7); simp only [Calm])
        go_wp2
        go_ret2
        exact ⟨by simp only [HH.out.1, HH.out.2]; rfl, (HIt.out _).1.trans (hb7.mono (HIt.out _).2)⟩
      · have e1 := str_some (s := s) (by omega)
        have HG : Hid (intOk s.data.toList = !zeroB s.data.toList ∧ rawV s = digV 0 s.data.toList) := Lib.hid (by
          have h9 := H9.out (by omega)
          unfold rawV intOk decV
          rw [HA.out, HLN.out, decide_eq_true h9]
          have : s.data.toList.isEmpty = false := by rw [← toList_data]; exact e1
          rw [this]
          exact ⟨by simp, rfl⟩)
        by_cases h1 : s.size = 1
        · have d1 : ((s.size : Int) == 1) = true := by rw [h1]; rfl
          have HH : Hid (intOk s.data.toList = true ∧ rawV s = digV 0 s.data.toList) := Lib.hid (by rw [HG.out.1, zero_one h1]; exact ⟨rfl, HG.out.2⟩)
          have h2 : 0 < s.size := by omega
          have H1 := Lib.hid h1
          clear h1
          go_wp2
          (refine wp_region_calm [] [0, 1, 2, 3, 4, 5, 6, 7, 8, 9, 10, 11, 12, 13, 14] 0 (by kernel_rfl) rfl (by kernel_rfl) (by kernel_rfl) (by kernel_rfl) ?_; simp only [pickB, List.filterMap_cons, List.filterMap_nil, List.getElem?_toArray, List.getElem?_cons_zero, List.getElem?_cons_succ]; (repeat (first | ((first | (with_reducible refine quietL_plain rfl (fun K hK => ?_)) | (with_reducible refine quietL_want (by with_unfolding_all rfl) (fun K hK => ?_))); (apply Exists.intro; refine ⟨fun wx hx => ?_, ?_⟩; (· (have hcx := ifs_ex hx); simp [go_sem, *, ↓IntWalk.iteOmega] <;> (first | rfl | exact ⟨rfl, rfl⟩ | fail)); (simp only [Act.put, List.setIfInBounds_toArray, List.set_cons_zero, List.set_cons_succ]; refine hK _ ?_; clear hK K))) | ((with_reducible refine quietL_skip (by with_unfolding_all rfl) ?_); simp only [Act.put, List.setIfInBounds_toArray, List.set_cons_zero, List.set_cons_succ]))); refine quietL_nil ?_)
          (refine anyB_end (by kernel_rfl) ?_; intro w7 hb7; have hs7 := hb7.size; (try simp at hs7); simp only [Calm])
          go_wp2
          go_ret2
          exact ⟨by simp only [HH.out.1, HH.out.2]; rfl, (HIt.out _).1.trans (hb7.mono (HIt.out _).2)⟩
        · have d1 : ((s.size : Int) == 1) = false := by simp; omega
          have hz := zero_more (s := s) (by omega)
          have hu : (((s[0]).toNat : Int) != 48) = !(s[0] == 48) := by
            rw [Bool.eq_iff_iff]
            simp [← UInt8.toNat_inj]
            omega
          have HH : Hid (intOk s.data.toList = (((s[0]).toNat : Int) != 48) ∧ rawV s = digV 0 s.data.toList) := Lib.hid (by rw [HG.out.1, hz, hu]; exact ⟨rfl, HG.out.2⟩)
          have h2 : 0 < s.size := by omega
          clear hz hu
          go_wp2
          (refine wp_region_calm [] [0, 1, 2, 3, 4, 5, 6, 7, 8, 9, 10, 11, 12, 13, 14] 0 (by kernel_rfl) rfl (by kernel_rfl) (by kernel_rfl) (by kernel_rfl) ?_; simp only [pickB, List.filterMap_cons, List.filterMap_nil, List.getElem?_toArray, List.getElem?_cons_zero, List.getElem?_cons_succ]; (repeat (first | ((first | (with_reducible refine quietL_plain rfl (fun K hK => ?_)) | (with_reducible refine quietL_want (by with_unfolding_all rfl) (fun K hK => ?_))); (apply Exists.intro; refine ⟨fun wx hx => ?_, ?_⟩; (· (have hcx := ifs_ex hx); simp [go_sem, *, ↓IntWalk.iteOmega] <;> (first | rfl | exact ⟨rfl, rfl⟩ | fail)); (simp only [Act.put, List.setIfInBounds_toArray, List.set_cons_zero, List.set_cons_succ]; refine hK _ ?_; clear hK K))) | ((with_reducible refine quietL_skip (by with_unfolding_all rfl) ?_); simp only [Act.put, List.setIfInBounds_toArray, List.set_cons_zero, List.set_cons_succ]))); refine quietL_nil ?_)
          (refine anyB_end (by kernel_rfl) ?_; intro w7 hb7; have hs7 := hb7.size; (try simp at hs7); simp only [Calm])
          go_wp2
          go_ret2
          exact ⟨by simp only [HH.out.1, HH.out.2]; rfl, (HIt.out _).1.trans (hb7.mono (HIt.out _).2)⟩
set_option maxRecDepth 100000 in
set_option maxHeartbeats 2000000 in
theorem tint_any (bt L : Nat) (st : List ByteArray × Bool) (w : World) (h : TkAt w bt L st) (hn : st.1.length ≤ 100000) (hs : (tk st).1.size ≤ maxLen) :
    Calls Tryz.prog 139 #[.pointer (some ⟨bt, 0, none⟩)] w fun e w' => e = .returned (.int .i64 (rawV (tk st).1)) ∧ TkAt w' bt L (tkN st) ∧ Ex [bt] w w' := by
  have HW := Lib.hid (tword_any bt L st w h hn)
  have hE : Hid (tkN st = ((tk st).2.1, (tk st).2.2 || !intOk (tk st).1.data.toList)) := Lib.hid rfl
  have HI := Lib.hid (fun W => aint_any (tk st).1 W hs)
  clear h hn hs
  rw [hE.out]
  generalize (tk st).2 = tr at *
  generalize (tk st).1 = v at *
  obtain ⟨r, q⟩ := tr
  clear hE
  dsimp only
  generalize intOk v.data.toList = ok at *
  generalize rawV v = rv at *
  cases q <;> cases ok
  all_goals
    go_enter Tryz.func139, Tryz.ntmps139
    go_wp2_with fail
    refine HW.out.mono ?_
    rintro e w1 ⟨rfl, ht, hx⟩
    have HT := Lib.hid ht
    have HX := Lib.hid hx
    clear ht hx
    go_wp2_with fail
    refine (HI.out w1).mono ?_
    rintro e w2 ⟨rfl, hb2⟩
    obtain ⟨A, n, c, bk, hc, hr, hL⟩ := HT.out.kept hb2
    have cb := bk.cell
    have fb := bk.frozen
    have lb := bk.lt
    have HB := Lib.hid bk
    have HR := Lib.hid hr
    have HX2 := Lib.hid (HX.out.grown hb2)
    clear bk hr hb2
    go_wp2_with fail
    go_ret
    exact ⟨rfl, ⟨A, n, c, HB.out.set_ 1 _, hc, HR.out.keep fun p hp => World.cell?_of_block (Below.heap_setCell w2 ⟨bt, 1, none⟩ _ p.block (by simp; omega)), hL⟩, HX2.out.set_in (p := ⟨bt, 1, none⟩) (.inl (List.mem_singleton.2 rfl)) _⟩
end Go.Proofs.YtjanojmgnpfjeaaGreatDoor
