/- Joined texts: CN CO. -/
import Derived.Test.YtjanojmgnpfjeaaGreatDoorCM
import Derived.Test.YtjanojmgnpfjeaaGreatDoorQg
import Derived.Test.YtjanojmgnpfjeaaGreatDoorQe
/- The program is awake: the examples' results are those of the document. -/
namespace Go.Proofs.YtjanojmgnpfjeaaGreatDoor
open Go Go.RowKit Go.Sort Go.Shelf
set_option linter.unusedSimpArgs false
set_option linter.unusedVariables false
attribute [local go_sem] cell_if frozen_if grow_cell
def SliR (w : World) (n : Nat) (zs : List Int) (e : Ending) (w' : World) : Prop := ∃ A c, e = .returned (.tuple #[.slice A n c, .int .i64 0]) ∧ Reads w' w'.heap.size 1 A n (zs.map (.int .i64)) ∧ Below w.heap.size w w'
theorem ex_us' {W : World} {g : Nat} (h : Sh W g) : Calls Tryz.prog 47 #[.agg #[.slice (some ⟨g, 0, none⟩) 4 4, .int .i64 100, .int .i64 200, .int .i64 20, .int .i64 2]] W (SliR W 3 [0, 1, 2]) := (ex_us h).mono fun _ _ h => h
theorem ex_ch' {W : World} {g : Nat} (n c : Int) (m : Nat) (zs : List Int) (h : Sh W g) (he : choE shA ⟨n, c⟩ = 0) (hz : choL shA ⟨n, c⟩ = zs) (hm : zs.length = m) : Calls Tryz.prog 34 #[.agg #[.slice (some ⟨g, 0, none⟩) 4 4, .int .i64 100, .int .i64 200, .int .i64 20, .int .i64 2], .agg #[.int .i64 n, .int .i64 c]] W (SliR W m zs) := by
  refine (ex_ch n c 0 zs h he hz).mono ?_
  rintro e w' ⟨v, rfl, ho, _, hb⟩
  obtain ⟨A, cp, rfl, _, _, hr⟩ := own_form ho
  subst hm
  exact ⟨A, cp, rfl, hr, hb⟩
theorem ex_ch0 {W : World} {g : Nat} (n c er : Int) (h : Sh W g) (he : choE shA ⟨n, c⟩ = er) (hz : choL shA ⟨n, c⟩ = []) (h0 : er ≠ 0) : Calls Tryz.prog 34 #[.agg #[.slice (some ⟨g, 0, none⟩) 4 4, .int .i64 100, .int .i64 200, .int .i64 20, .int .i64 2], .agg #[.int .i64 n, .int .i64 c]] W fun e w' => e = .returned (.tuple #[.slice none 0 0, .int .i64 er]) ∧ Below W.heap.size W w' := by
  refine (ex_ch n c er [] h he hz).mono ?_
  rintro e w' ⟨v, rfl, ho, hv, hb⟩
  rw [hv h0]
  exact ⟨rfl, hb⟩
theorem ex_le' {W : World} {g b : Nat} (h : Sh W g) (hb : SmpAt W b) : Calls Tryz.prog 9 #[.agg #[.slice (some ⟨g, 0, none⟩) 4 4, .int .i64 100, .int .i64 200, .int .i64 20, .int .i64 2], .slice (some ⟨b, 0, none⟩) 4 4, .int .i64 64] W (SliR W 4 [3, 2, 0, 3]) := by
  refine (ex_le h hb).mono ?_
  rintro e w' ⟨v, rfl, ho, hb⟩
  obtain ⟨A, cp, rfl, _, _, hr⟩ := own_form ho
  exact ⟨A, cp, rfl, hr, hb⟩
def LogR1 (w : World) (e : Ending) (w' : World) : Prop := ∃ b o c A c2, e = .returned (.tuple #[.slice (some ⟨b, o, none⟩) 1 c, .int .i64 0]) ∧ b < w'.heap.size ∧ w'.cell? ⟨b, o, none⟩ = some (.slice A 4 c2) ∧ Reads w' w'.heap.size 1 A 4 (smps [120, 150, 120, 180]) ∧ Below w.heap.size w w'
theorem ex_lo' {W : World} {g b : Nat} (h : Sh W g) (hb : Or1 W b) : Calls Tryz.prog 56 #[.agg #[.slice (some ⟨g, 0, none⟩) 4 4, .int .i64 100, .int .i64 200, .int .i64 20, .int .i64 2], .slice (some ⟨b, 0, none⟩) 1 1] W (LogR1 W) := by
  refine (ex_lo h hb).mono ?_
  rintro e w' ⟨v, vs, rfl, ho, _, hr, hb⟩
  obtain ⟨A, cp, rfl, _, _, hrd⟩ := own_form ho
  obtain ⟨hl, h2⟩ := hrd
  obtain ⟨b, o, rfl, hbb, hc⟩ := h2 (by decide)
  have hl1 : vs.length = 1 := by simpa using hl
  match vs, hl1 with
  | [u], _ =>
    obtain ⟨l, e1, hu⟩ := hr 0 u rfl
    simp at e1
    subst e1
    obtain ⟨A2, c2, rfl, _, _, hr2⟩ := own_form hu
    exact ⟨b, o, cp, A2, c2, rfl, hbb, hc 0 _ rfl, hr2, hb⟩
theorem same_I {W : World} {A : Option Addr} {n c : Nat} (xs : List Int) (cs : Array Value) (hn : xs.length = n) (hc : cs.toList = xs.map (.int .i64)) (hm : n ≤ 100) (h : Reads W W.heap.size 1 A n (xs.map (.int .i64))) : Calls Tryz.prog 53 #[.slice A n c, .slice (some ⟨W.heap.size, 0, none⟩) n n] (W.alloc (.cells cs 3)) fun e w' => e = .returned (.bool true) ∧ Below W.heap.size W w' := by
  have hs : cs.size = n * 1 := by
    have := congrArg List.length hc
    simp at this
    omega
  have h2 := Reads.new (size := 1) W cs 3 n hs
  rw [hc] at h2
  have := SameInts_any W.heap.size (W.heap.size + 1) A (some ⟨W.heap.size, 0, none⟩) n n c n xs xs (W.alloc (.cells cs 3)) (h.alloc (Nat.le_refl _) _) h2 (by simp) (by simp) (by unfold maxLen; omega) (by unfold maxLen; omega)
  rw [sameI_self] at this
  exact this.mono fun _ _ h => ⟨h.1, ((Below.refl _ _).alloc (Nat.le_refl _) _).trans (h.2.mono (by simp))⟩
theorem same_S {W : World} {A : Option Addr} {c : Nat} (h : Reads W W.heap.size 1 A 4 (smps [120, 150, 120, 180])) : Calls Tryz.prog 57 #[.slice A 4 c, .slice (some ⟨W.heap.size, 0, none⟩) 4 4] (W.alloc (.cells #[.float .f32 1089470464, .float .f32 1091960832, .float .f32 1089470464, .float .f32 1093926912] 102)) fun e w' => e = .returned (.bool true) ∧ Below W.heap.size W w' := by
  have h2 := Reads.new (size := 1) W #[.float .f32 1089470464, .float .f32 1091960832, .float .f32 1089470464, .float .f32 1093926912] 102 4 rfl
  have := SameSamples_any W.heap.size (W.heap.size + 1) A (some ⟨W.heap.size, 0, none⟩) 4 4 c 4 [smp 120, smp 150, smp 120, smp 180] [1089470464, 1091960832, 1089470464, 1093926912] _ (h.alloc (Nat.le_refl _) _) h2 (by simp) (by simp) (by decide) (by decide)
  rw [show sameF [smp 120, smp 150, smp 120, smp 180] [1089470464, 1091960832, 1089470464, 1093926912] = true by decide +kernel] at this
  exact this.mono fun _ _ h => ⟨h.1, ((Below.refl _ _).alloc (Nat.le_refl _) _).trans (h.2.mono (by simp))⟩
theorem sh_low (w : World) (cs : Array Value) (t : TypeId) : Calls Tryz.prog 48 #[] (w.alloc (.cells cs t)) fun e w' => ∃ g, e = .returned (.agg #[.slice (some ⟨g, 0, none⟩) 4 4, .int .i64 100, .int .i64 200, .int .i64 20, .int .i64 2]) ∧ Sh w' g ∧ w.heap.size ≤ g ∧ Below w.heap.size w w' ∧ Blk w' w.heap.size t cs := by
  refine (shown_any _).mono ?_
  rintro e w' ⟨g, rfl, hS, hg, hb⟩
  exact ⟨g, rfl, hS, by simp at hg; omega, ((Below.refl _ _).alloc (Nat.le_refl _) _).trans (hb.mono (by simp)), (Blk.new w t cs).kept hb⟩
structure RdI (w : World) (A : Option Addr) (n : Nat) (xs : List Value) : Prop where
  out : Reads w w.heap.size 1 A n xs
theorem RdI.kept {w w' : World} {A : Option Addr} {n : Nat} {xs : List Value} (h : RdI w A n xs) (hb : Below w.heap.size w w') : RdI w' A n xs := ⟨(h.out.below hb).more hb.size⟩
structure CellI (w : World) (b o : Nat) (u : Value) : Prop where
  lt : b < w.heap.size
  out : w.cell? ⟨b, o, none⟩ = some u
theorem CellI.kept {w w' : World} {b o : Nat} {u : Value} (h : CellI w b o u) (hb : Below w.heap.size w w') : CellI w' b o u := ⟨Nat.lt_of_lt_of_le h.lt hb.size, by rw [hb.cell (p := ⟨b, o, none⟩) h.lt]; exact h.out⟩
set_option maxRecDepth 1000000 in
set_option maxHeartbeats 16000000 in
theorem awake_any (w : World) (hT : TabT w) : Calls Tryz.prog 7 #[] w fun e w' => e = .returned (.bool true) ∧ Below w.heap.size w w' := by
  have HT := Lib.hid hT
  clear hT
  go_enter Tryz.func7, Tryz.ntmps7
  have HL := Lib.hid (Below.refl w.heap.size w)
  go_wp2_with fail
  refine (shown_any _).mono ?_
  rintro e w1 ⟨g1, rfl, hS, _, hb⟩
  have hs1 := hb.size
  have HL' := Lib.hid (HL.out.trans (hb.mono HL.out.size)); clear HL; have HL := HL'; clear HL'
  have HT' := Lib.hid (HT.out.kept hb); clear HT; have HT := HT'; clear HT'
  clear hb
  go_wp2_with fail
  refine (ex_us' hS).mono ?_
  rintro e w2 ⟨A2, c2, rfl, hf, hb⟩
  have hs2 := hb.size
  have HL' := Lib.hid (HL.out.trans (hb.mono HL.out.size)); clear HL; have HL := HL'; clear HL'
  have HT' := Lib.hid (HT.out.kept hb); clear HT; have HT := HT'; clear HT'
  clear hb
  clear hS
  have F0 := Lib.hid (⟨hf⟩ : RdI w2 A2 _ _); clear hf
  go_wp2_with fail
  refine (shown_any _).mono ?_
  rintro e w3 ⟨g3, rfl, hS, _, hb⟩
  have hs3 := hb.size
  have HL' := Lib.hid (HL.out.trans (hb.mono HL.out.size)); clear HL; have HL := HL'; clear HL'
  have HT' := Lib.hid (HT.out.kept hb); clear HT; have HT := HT'; clear HT'
  have F0' := Lib.hid (F0.out.kept hb); clear F0; have F0 := F0'; clear F0'
  clear hb
  go_wp2_with fail
  refine (ex_vo hS).mono ?_
  rintro e w4 ⟨rfl, hb⟩
  have hs4 := hb.size
  have HL' := Lib.hid (HL.out.trans (hb.mono HL.out.size)); clear HL; have HL := HL'; clear HL'
  have HT' := Lib.hid (HT.out.kept hb); clear HT; have HT := HT'; clear HT'
  have F0' := Lib.hid (F0.out.kept hb); clear F0; have F0 := F0'; clear F0'
  clear hb
  clear hS
  go_wp2_with fail
  refine (shown_any _).mono ?_
  rintro e w5 ⟨g5, rfl, hS, _, hb⟩
  have hs5 := hb.size
  have HL' := Lib.hid (HL.out.trans (hb.mono HL.out.size)); clear HL; have HL := HL'; clear HL'
  have HT' := Lib.hid (HT.out.kept hb); clear HT; have HT := HT'; clear HT'
  have F0' := Lib.hid (F0.out.kept hb); clear F0; have F0 := F0'; clear F0'
  clear hb
  go_wp2_with fail
  refine (ex_sp hS).mono ?_
  rintro e w6 ⟨rfl, hb⟩
  have hs6 := hb.size
  have HL' := Lib.hid (HL.out.trans (hb.mono HL.out.size)); clear HL; have HL := HL'; clear HL'
  have HT' := Lib.hid (HT.out.kept hb); clear HT; have HT := HT'; clear HT'
  have F0' := Lib.hid (F0.out.kept hb); clear F0; have F0 := F0'; clear F0'
  clear hb
  clear hS
  go_wp2_with fail
  refine (shown_any _).mono ?_
  rintro e w7 ⟨g7, rfl, hS, _, hb⟩
  have hs7 := hb.size
  have HL' := Lib.hid (HL.out.trans (hb.mono HL.out.size)); clear HL; have HL := HL'; clear HL'
  have HT' := Lib.hid (HT.out.kept hb); clear HT; have HT := HT'; clear HT'
  have F0' := Lib.hid (F0.out.kept hb); clear F0; have F0 := F0'; clear F0'
  clear hb
  go_wp2_with fail
  refine (ex_en hS).mono ?_
  rintro e w8 ⟨rfl, hb⟩
  have hs8 := hb.size
  have HL' := Lib.hid (HL.out.trans (hb.mono HL.out.size)); clear HL; have HL := HL'; clear HL'
  have HT' := Lib.hid (HT.out.kept hb); clear HT; have HT := HT'; clear HT'
  have F0' := Lib.hid (F0.out.kept hb); clear F0; have F0 := F0'; clear F0'
  clear hb
  clear hS
  go_wp2_with fail
  refine (shown_any _).mono ?_
  rintro e w9 ⟨g9, rfl, hS, _, hb⟩
  have hs9 := hb.size
  have HL' := Lib.hid (HL.out.trans (hb.mono HL.out.size)); clear HL; have HL := HL'; clear HL'
  have HT' := Lib.hid (HT.out.kept hb); clear HT; have HT := HT'; clear HT'
  have F0' := Lib.hid (F0.out.kept hb); clear F0; have F0 := F0'; clear F0'
  clear hb
  go_wp2_with fail
  refine (ex_ch' _ _ 1 _ hS sh_e1 sh_l1 rfl).mono ?_
  rintro e w10 ⟨A10, c10, rfl, hf, hb⟩
  have hs10 := hb.size
  have HL' := Lib.hid (HL.out.trans (hb.mono HL.out.size)); clear HL; have HL := HL'; clear HL'
  have HT' := Lib.hid (HT.out.kept hb); clear HT; have HT := HT'; clear HT'
  have F0' := Lib.hid (F0.out.kept hb); clear F0; have F0 := F0'; clear F0'
  clear hb
  clear hS
  have F1 := Lib.hid (⟨hf⟩ : RdI w10 A10 _ _); clear hf
  go_wp2_with fail
  refine (shown_any _).mono ?_
  rintro e w11 ⟨g11, rfl, hS, _, hb⟩
  have hs11 := hb.size
  have HL' := Lib.hid (HL.out.trans (hb.mono HL.out.size)); clear HL; have HL := HL'; clear HL'
  have HT' := Lib.hid (HT.out.kept hb); clear HT; have HT := HT'; clear HT'
  have F0' := Lib.hid (F0.out.kept hb); clear F0; have F0 := F0'; clear F0'
  have F1' := Lib.hid (F1.out.kept hb); clear F1; have F1 := F1'; clear F1'
  clear hb
  go_wp2_with fail
  refine (ex_ch' _ _ 1 _ hS sh_e2 sh_l2 rfl).mono ?_
  rintro e w12 ⟨A12, c12, rfl, hf, hb⟩
  have hs12 := hb.size
  have HL' := Lib.hid (HL.out.trans (hb.mono HL.out.size)); clear HL; have HL := HL'; clear HL'
  have HT' := Lib.hid (HT.out.kept hb); clear HT; have HT := HT'; clear HT'
  have F0' := Lib.hid (F0.out.kept hb); clear F0; have F0 := F0'; clear F0'
  have F1' := Lib.hid (F1.out.kept hb); clear F1; have F1 := F1'; clear F1'
  clear hb
  clear hS
  have F2 := Lib.hid (⟨hf⟩ : RdI w12 A12 _ _); clear hf
  go_wp2_with fail
  refine (shown_any _).mono ?_
  rintro e w13 ⟨g13, rfl, hS, _, hb⟩
  have hs13 := hb.size
  have HL' := Lib.hid (HL.out.trans (hb.mono HL.out.size)); clear HL; have HL := HL'; clear HL'
  have HT' := Lib.hid (HT.out.kept hb); clear HT; have HT := HT'; clear HT'
  have F0' := Lib.hid (F0.out.kept hb); clear F0; have F0 := F0'; clear F0'
  have F1' := Lib.hid (F1.out.kept hb); clear F1; have F1 := F1'; clear F1'
  have F2' := Lib.hid (F2.out.kept hb); clear F2; have F2 := F2'; clear F2'
  clear hb
  go_wp2_with fail
  refine (ex_ch' _ _ 2 _ hS sh_e3 sh_l3 rfl).mono ?_
  rintro e w14 ⟨A14, c14, rfl, hf, hb⟩
  have hs14 := hb.size
  have HL' := Lib.hid (HL.out.trans (hb.mono HL.out.size)); clear HL; have HL := HL'; clear HL'
  have HT' := Lib.hid (HT.out.kept hb); clear HT; have HT := HT'; clear HT'
  have F0' := Lib.hid (F0.out.kept hb); clear F0; have F0 := F0'; clear F0'
  have F1' := Lib.hid (F1.out.kept hb); clear F1; have F1 := F1'; clear F1'
  have F2' := Lib.hid (F2.out.kept hb); clear F2; have F2 := F2'; clear F2'
  clear hb
  clear hS
  have F3 := Lib.hid (⟨hf⟩ : RdI w14 A14 _ _); clear hf
  go_wp2_with fail
  refine (shown_any _).mono ?_
  rintro e w15 ⟨g15, rfl, hS, _, hb⟩
  have hs15 := hb.size
  have HL' := Lib.hid (HL.out.trans (hb.mono HL.out.size)); clear HL; have HL := HL'; clear HL'
  have HT' := Lib.hid (HT.out.kept hb); clear HT; have HT := HT'; clear HT'
  have F0' := Lib.hid (F0.out.kept hb); clear F0; have F0 := F0'; clear F0'
  have F1' := Lib.hid (F1.out.kept hb); clear F1; have F1 := F1'; clear F1'
  have F2' := Lib.hid (F2.out.kept hb); clear F2; have F2 := F2'; clear F2'
  have F3' := Lib.hid (F3.out.kept hb); clear F3; have F3 := F3'; clear F3'
  clear hb
  go_wp2_with fail
  refine (ex_ch' _ _ 2 _ hS sh_e4 sh_l4 rfl).mono ?_
  rintro e w16 ⟨A16, c16, rfl, hf, hb⟩
  have hs16 := hb.size
  have HL' := Lib.hid (HL.out.trans (hb.mono HL.out.size)); clear HL; have HL := HL'; clear HL'
  have HT' := Lib.hid (HT.out.kept hb); clear HT; have HT := HT'; clear HT'
  have F0' := Lib.hid (F0.out.kept hb); clear F0; have F0 := F0'; clear F0'
  have F1' := Lib.hid (F1.out.kept hb); clear F1; have F1 := F1'; clear F1'
  have F2' := Lib.hid (F2.out.kept hb); clear F2; have F2 := F2'; clear F2'
  have F3' := Lib.hid (F3.out.kept hb); clear F3; have F3 := F3'; clear F3'
  clear hb
  clear hS
  have F4 := Lib.hid (⟨hf⟩ : RdI w16 A16 _ _); clear hf
  go_wp2_with fail
  refine (shown_any _).mono ?_
  rintro e w17 ⟨g17, rfl, hS, _, hb⟩
  have hs17 := hb.size
  have HL' := Lib.hid (HL.out.trans (hb.mono HL.out.size)); clear HL; have HL := HL'; clear HL'
  have HT' := Lib.hid (HT.out.kept hb); clear HT; have HT := HT'; clear HT'
  have F0' := Lib.hid (F0.out.kept hb); clear F0; have F0 := F0'; clear F0'
  have F1' := Lib.hid (F1.out.kept hb); clear F1; have F1 := F1'; clear F1'
  have F2' := Lib.hid (F2.out.kept hb); clear F2; have F2 := F2'; clear F2'
  have F3' := Lib.hid (F3.out.kept hb); clear F3; have F3 := F3'; clear F3'
  have F4' := Lib.hid (F4.out.kept hb); clear F4; have F4 := F4'; clear F4'
  clear hb
  go_wp2_with fail
  refine (ex_wo (hS.kept ((Below.refl _ _).alloc (Nat.le_refl _) _)) (Blk.new_at _ _ rfl)).mono ?_
  rintro e w18 ⟨rfl, hb⟩
  have hb := ((Below.refl _ _).alloc (Nat.le_refl _) _).trans (hb.mono (by simp))
  have hs18 := hb.size
  have HL' := Lib.hid (HL.out.trans (hb.mono HL.out.size)); clear HL; have HL := HL'; clear HL'
  have HT' := Lib.hid (HT.out.kept hb); clear HT; have HT := HT'; clear HT'
  have F0' := Lib.hid (F0.out.kept hb); clear F0; have F0 := F0'; clear F0'
  have F1' := Lib.hid (F1.out.kept hb); clear F1; have F1 := F1'; clear F1'
  have F2' := Lib.hid (F2.out.kept hb); clear F2; have F2 := F2'; clear F2'
  have F3' := Lib.hid (F3.out.kept hb); clear F3; have F3 := F3'; clear F3'
  have F4' := Lib.hid (F4.out.kept hb); clear F4; have F4 := F4'; clear F4'
  clear hb
  clear hS
  go_wp2_with fail
  refine (same_I [0, 1, 2] _ rfl rfl (by decide) F0.out.out).mono ?_
  rintro e w19 ⟨rfl, hb⟩
  clear F0
  have hs19 := hb.size
  have HL' := Lib.hid (HL.out.trans (hb.mono HL.out.size)); clear HL; have HL := HL'; clear HL'
  have HT' := Lib.hid (HT.out.kept hb); clear HT; have HT := HT'; clear HT'
  have F1' := Lib.hid (F1.out.kept hb); clear F1; have F1 := F1'; clear F1'
  have F2' := Lib.hid (F2.out.kept hb); clear F2; have F2 := F2'; clear F2'
  have F3' := Lib.hid (F3.out.kept hb); clear F3; have F3 := F3'; clear F3'
  have F4' := Lib.hid (F4.out.kept hb); clear F4; have F4 := F4'; clear F4'
  clear hb
  go_wp2_with fail
  refine (same_I [2] _ rfl rfl (by decide) F1.out.out).mono ?_
  rintro e w20 ⟨rfl, hb⟩
  clear F1
  have hs20 := hb.size
  have HL' := Lib.hid (HL.out.trans (hb.mono HL.out.size)); clear HL; have HL := HL'; clear HL'
  have HT' := Lib.hid (HT.out.kept hb); clear HT; have HT := HT'; clear HT'
  have F2' := Lib.hid (F2.out.kept hb); clear F2; have F2 := F2'; clear F2'
  have F3' := Lib.hid (F3.out.kept hb); clear F3; have F3 := F3'; clear F3'
  have F4' := Lib.hid (F4.out.kept hb); clear F4; have F4 := F4'; clear F4'
  clear hb
  go_wp2_with fail
  refine (same_I [1] _ rfl rfl (by decide) F2.out.out).mono ?_
  rintro e w21 ⟨rfl, hb⟩
  clear F2
  have hs21 := hb.size
  have HL' := Lib.hid (HL.out.trans (hb.mono HL.out.size)); clear HL; have HL := HL'; clear HL'
  have HT' := Lib.hid (HT.out.kept hb); clear HT; have HT := HT'; clear HT'
  have F3' := Lib.hid (F3.out.kept hb); clear F3; have F3 := F3'; clear F3'
  have F4' := Lib.hid (F4.out.kept hb); clear F4; have F4 := F4'; clear F4'
  clear hb
  go_wp2_with fail
  refine (same_I [0, 2] _ rfl rfl (by decide) F3.out.out).mono ?_
  rintro e w22 ⟨rfl, hb⟩
  clear F3
  have hs22 := hb.size
  have HL' := Lib.hid (HL.out.trans (hb.mono HL.out.size)); clear HL; have HL := HL'; clear HL'
  have HT' := Lib.hid (HT.out.kept hb); clear HT; have HT := HT'; clear HT'
  have F4' := Lib.hid (F4.out.kept hb); clear F4; have F4 := F4'; clear F4'
  clear hb
  go_wp2_with fail
  refine (same_I [0, 1] _ rfl rfl (by decide) F4.out.out).mono ?_
  rintro e w23 ⟨rfl, hb⟩
  clear F4
  have hs23 := hb.size
  have HL' := Lib.hid (HL.out.trans (hb.mono HL.out.size)); clear HL; have HL := HL'; clear HL'
  have HT' := Lib.hid (HT.out.kept hb); clear HT; have HT := HT'; clear HT'
  clear hb
  go_wp2_with fail
  refine (shown_any _).mono ?_
  rintro e w24 ⟨g24, rfl, hS, _, hb⟩
  have hs24 := hb.size
  have HL' := Lib.hid (HL.out.trans (hb.mono HL.out.size)); clear HL; have HL := HL'; clear HL'
  have HT' := Lib.hid (HT.out.kept hb); clear HT; have HT := HT'; clear HT'
  clear hb
  go_wp2_with fail
  refine (ex_st hS).mono ?_
  rintro e w25 ⟨hb, g25, rfl, hf⟩
  have hs25 := hb.size
  have HL' := Lib.hid (HL.out.trans (hb.mono HL.out.size)); clear HL; have HL := HL'; clear HL'
  have HT' := Lib.hid (HT.out.kept hb); clear HT; have HT := HT'; clear HT'
  clear hb
  clear hS
  have F5 := Lib.hid hf; clear hf
  go_wp2_with fail
  refine (sh_low _ _ _).mono ?_
  rintro e w26 ⟨g26, rfl, hS, _, hb, hk⟩
  have hs26 := hb.size
  have HL' := Lib.hid (HL.out.trans (hb.mono HL.out.size)); clear HL; have HL := HL'; clear HL'
  have HT' := Lib.hid (HT.out.kept hb); clear HT; have HT := HT'; clear HT'
  have F5' := Lib.hid (F5.out.kept hb); clear F5; have F5 := F5'; clear F5'
  clear hb
  have KB := Lib.hid hk; clear hk
  go_wp2_with fail
  refine (ex_bo hS).mono ?_
  rintro e w27 ⟨rfl, hb⟩
  have hs27 := hb.size
  have HL' := Lib.hid (HL.out.trans (hb.mono HL.out.size)); clear HL; have HL := HL'; clear HL'
  have HT' := Lib.hid (HT.out.kept hb); clear HT; have HT := HT'; clear HT'
  have F5' := Lib.hid (F5.out.kept hb); clear F5; have F5 := F5'; clear F5'
  have KB' := Lib.hid (KB.out.kept hb); clear KB; have KB := KB'; clear KB'
  clear hb
  clear hS
  go_wp2_with fail
  refine (shown_any _).mono ?_
  rintro e w28 ⟨g28, rfl, hS, _, hb⟩
  have hs28 := hb.size
  have HL' := Lib.hid (HL.out.trans (hb.mono HL.out.size)); clear HL; have HL := HL'; clear HL'
  have HT' := Lib.hid (HT.out.kept hb); clear HT; have HT := HT'; clear HT'
  have F5' := Lib.hid (F5.out.kept hb); clear F5; have F5 := F5'; clear F5'
  have KB' := Lib.hid (KB.out.kept hb); clear KB; have KB := KB'; clear KB'
  clear hb
  go_wp2_with fail
  refine (ex_gu hS).mono ?_
  rintro e w29 ⟨rfl, hb⟩
  have hs29 := hb.size
  have HL' := Lib.hid (HL.out.trans (hb.mono HL.out.size)); clear HL; have HL := HL'; clear HL'
  have HT' := Lib.hid (HT.out.kept hb); clear HT; have HT := HT'; clear HT'
  have F5' := Lib.hid (F5.out.kept hb); clear F5; have F5 := F5'; clear F5'
  have KB' := Lib.hid (KB.out.kept hb); clear KB; have KB := KB'; clear KB'
  clear hb
  clear hS
  go_wp2_with fail
  refine (shown_any _).mono ?_
  rintro e w30 ⟨g30, rfl, hS, _, hb⟩
  have hs30 := hb.size
  have HL' := Lib.hid (HL.out.trans (hb.mono HL.out.size)); clear HL; have HL := HL'; clear HL'
  have HT' := Lib.hid (HT.out.kept hb); clear HT; have HT := HT'; clear HT'
  have F5' := Lib.hid (F5.out.kept hb); clear F5; have F5 := F5'; clear F5'
  have KB' := Lib.hid (KB.out.kept hb); clear KB; have KB := KB'; clear KB'
  clear hb
  go_wp2_with fail
  refine (ex_le' (hS.kept ((Below.refl _ _).alloc (Nat.le_refl _) _)) (Blk.new_at _ _ rfl)).mono ?_
  rintro e w31 ⟨A31, c31, rfl, hf, hb⟩
  have hb := ((Below.refl _ _).alloc (Nat.le_refl _) _).trans (hb.mono (by simp))
  have hs31 := hb.size
  have HL' := Lib.hid (HL.out.trans (hb.mono HL.out.size)); clear HL; have HL := HL'; clear HL'
  have HT' := Lib.hid (HT.out.kept hb); clear HT; have HT := HT'; clear HT'
  have F5' := Lib.hid (F5.out.kept hb); clear F5; have F5 := F5'; clear F5'
  have KB' := Lib.hid (KB.out.kept hb); clear KB; have KB := KB'; clear KB'
  clear hb
  clear hS
  have F6 := Lib.hid (⟨hf⟩ : RdI w31 A31 _ _); clear hf
  go_wp2_with fail
  refine (shown_any _).mono ?_
  rintro e w32 ⟨g32, rfl, hS, _, hb⟩
  have hs32 := hb.size
  have HL' := Lib.hid (HL.out.trans (hb.mono HL.out.size)); clear HL; have HL := HL'; clear HL'
  have HT' := Lib.hid (HT.out.kept hb); clear HT; have HT := HT'; clear HT'
  have F5' := Lib.hid (F5.out.kept hb); clear F5; have F5 := F5'; clear F5'
  have KB' := Lib.hid (KB.out.kept hb); clear KB; have KB := KB'; clear KB'
  have F6' := Lib.hid (F6.out.kept hb); clear F6; have F6 := F6'; clear F6'
  clear hb
  go_wp2_with fail
  refine (ex_mi hS).mono ?_
  rintro e w33 ⟨hb, g33, rfl, hf⟩
  have hs33 := hb.size
  have HL' := Lib.hid (HL.out.trans (hb.mono HL.out.size)); clear HL; have HL := HL'; clear HL'
  have HT' := Lib.hid (HT.out.kept hb); clear HT; have HT := HT'; clear HT'
  have F5' := Lib.hid (F5.out.kept hb); clear F5; have F5 := F5'; clear F5'
  have KB' := Lib.hid (KB.out.kept hb); clear KB; have KB := KB'; clear KB'
  have F6' := Lib.hid (F6.out.kept hb); clear F6; have F6 := F6'; clear F6'
  clear hb
  clear hS
  have F7 := Lib.hid hf; clear hf
  go_wp2_with fail
  refine (sh_low _ _ _).mono ?_
  rintro e w34 ⟨g34, rfl, hS, _, hb, hk⟩
  have hs34 := hb.size
  have HL' := Lib.hid (HL.out.trans (hb.mono HL.out.size)); clear HL; have HL := HL'; clear HL'
  have HT' := Lib.hid (HT.out.kept hb); clear HT; have HT := HT'; clear HT'
  have F5' := Lib.hid (F5.out.kept hb); clear F5; have F5 := F5'; clear F5'
  have KB' := Lib.hid (KB.out.kept hb); clear KB; have KB := KB'; clear KB'
  have F6' := Lib.hid (F6.out.kept hb); clear F6; have F6 := F6'; clear F6'
  have F7' := Lib.hid (F7.out.kept hb); clear F7; have F7 := F7'; clear F7'
  clear hb
  have KC := Lib.hid hk; clear hk
  go_wp2_with fail
  refine (ex_pr hS HT.out).mono ?_
  rintro e w35 ⟨rfl, hb⟩
  have hs35 := hb.size
  have HL' := Lib.hid (HL.out.trans (hb.mono HL.out.size)); clear HL; have HL := HL'; clear HL'
  have HT' := Lib.hid (HT.out.kept hb); clear HT; have HT := HT'; clear HT'
  have F5' := Lib.hid (F5.out.kept hb); clear F5; have F5 := F5'; clear F5'
  have KB' := Lib.hid (KB.out.kept hb); clear KB; have KB := KB'; clear KB'
  have F6' := Lib.hid (F6.out.kept hb); clear F6; have F6 := F6'; clear F6'
  have F7' := Lib.hid (F7.out.kept hb); clear F7; have F7 := F7'; clear F7'
  have KC' := Lib.hid (KC.out.kept hb); clear KC; have KC := KC'; clear KC'
  clear hb
  clear hS
  go_wp2_with fail
  refine (shown_any _).mono ?_
  rintro e w36 ⟨g36, rfl, hS, _, hb⟩
  have hs36 := hb.size
  have HL' := Lib.hid (HL.out.trans (hb.mono HL.out.size)); clear HL; have HL := HL'; clear HL'
  have HT' := Lib.hid (HT.out.kept hb); clear HT; have HT := HT'; clear HT'
  have F5' := Lib.hid (F5.out.kept hb); clear F5; have F5 := F5'; clear F5'
  have KB' := Lib.hid (KB.out.kept hb); clear KB; have KB := KB'; clear KB'
  have F6' := Lib.hid (F6.out.kept hb); clear F6; have F6 := F6'; clear F6'
  have F7' := Lib.hid (F7.out.kept hb); clear F7; have F7 := F7'; clear F7'
  have KC' := Lib.hid (KC.out.kept hb); clear KC; have KC := KC'; clear KC'
  clear hb
  go_wp2_with fail
  refine (ex_ch0 4 0 18 hS sh_e5 sh_l5 (by decide)).mono ?_
  rintro e w37 ⟨rfl, hb⟩
  have hs37 := hb.size
  have HL' := Lib.hid (HL.out.trans (hb.mono HL.out.size)); clear HL; have HL := HL'; clear HL'
  have HT' := Lib.hid (HT.out.kept hb); clear HT; have HT := HT'; clear HT'
  have F5' := Lib.hid (F5.out.kept hb); clear F5; have F5 := F5'; clear F5'
  have KB' := Lib.hid (KB.out.kept hb); clear KB; have KB := KB'; clear KB'
  have F6' := Lib.hid (F6.out.kept hb); clear F6; have F6 := F6'; clear F6'
  have F7' := Lib.hid (F7.out.kept hb); clear F7; have F7 := F7'; clear F7'
  have KC' := Lib.hid (KC.out.kept hb); clear KC; have KC := KC'; clear KC'
  clear hb
  clear hS
  go_wp2_with fail
  refine (shown_any _).mono ?_
  rintro e w38 ⟨g38, rfl, hS, _, hb⟩
  have hs38 := hb.size
  have HL' := Lib.hid (HL.out.trans (hb.mono HL.out.size)); clear HL; have HL := HL'; clear HL'
  have HT' := Lib.hid (HT.out.kept hb); clear HT; have HT := HT'; clear HT'
  have F5' := Lib.hid (F5.out.kept hb); clear F5; have F5 := F5'; clear F5'
  have KB' := Lib.hid (KB.out.kept hb); clear KB; have KB := KB'; clear KB'
  have F6' := Lib.hid (F6.out.kept hb); clear F6; have F6 := F6'; clear F6'
  have F7' := Lib.hid (F7.out.kept hb); clear F7; have F7 := F7'; clear F7'
  have KC' := Lib.hid (KC.out.kept hb); clear KC; have KC := KC'; clear KC'
  clear hb
  go_wp2_with fail
  refine (ex_ch0 1 21 31 hS sh_e6 sh_l6 (by decide)).mono ?_
  rintro e w39 ⟨rfl, hb⟩
  have hs39 := hb.size
  have HL' := Lib.hid (HL.out.trans (hb.mono HL.out.size)); clear HL; have HL := HL'; clear HL'
  have HT' := Lib.hid (HT.out.kept hb); clear HT; have HT := HT'; clear HT'
  have F5' := Lib.hid (F5.out.kept hb); clear F5; have F5 := F5'; clear F5'
  have KB' := Lib.hid (KB.out.kept hb); clear KB; have KB := KB'; clear KB'
  have F6' := Lib.hid (F6.out.kept hb); clear F6; have F6 := F6'; clear F6'
  have F7' := Lib.hid (F7.out.kept hb); clear F7; have F7 := F7'; clear F7'
  have KC' := Lib.hid (KC.out.kept hb); clear KC; have KC := KC'; clear KC'
  clear hb
  clear hS
  go_wp2_with fail
  refine (shown_any _).mono ?_
  rintro e w40 ⟨g40, rfl, hS, _, hb⟩
  have hs40 := hb.size
  have HL' := Lib.hid (HL.out.trans (hb.mono HL.out.size)); clear HL; have HL := HL'; clear HL'
  have HT' := Lib.hid (HT.out.kept hb); clear HT; have HT := HT'; clear HT'
  have F5' := Lib.hid (F5.out.kept hb); clear F5; have F5 := F5'; clear F5'
  have KB' := Lib.hid (KB.out.kept hb); clear KB; have KB := KB'; clear KB'
  have F6' := Lib.hid (F6.out.kept hb); clear F6; have F6 := F6'; clear F6'
  have F7' := Lib.hid (F7.out.kept hb); clear F7; have F7 := F7'; clear F7'
  have KC' := Lib.hid (KC.out.kept hb); clear KC; have KC := KC'; clear KC'
  clear hb
  go_wp2_with fail
  refine (ex_lo' (hS.kept ((Below.refl _ _).alloc (Nat.le_refl _) _)) (Blk.new_at _ _ rfl)).mono ?_
  rintro e w41 ⟨b41, o41, c41, A41, d41, rfl, hbl, hcl, hf, hb⟩
  have hb := ((Below.refl _ _).alloc (Nat.le_refl _) _).trans (hb.mono (by simp))
  have hs41 := hb.size
  have HL' := Lib.hid (HL.out.trans (hb.mono HL.out.size)); clear HL; have HL := HL'; clear HL'
  have HT' := Lib.hid (HT.out.kept hb); clear HT; have HT := HT'; clear HT'
  have F5' := Lib.hid (F5.out.kept hb); clear F5; have F5 := F5'; clear F5'
  have KB' := Lib.hid (KB.out.kept hb); clear KB; have KB := KB'; clear KB'
  have F6' := Lib.hid (F6.out.kept hb); clear F6; have F6 := F6'; clear F6'
  have F7' := Lib.hid (F7.out.kept hb); clear F7; have F7 := F7'; clear F7'
  have KC' := Lib.hid (KC.out.kept hb); clear KC; have KC := KC'; clear KC'
  clear hb
  clear hS
  have F8 := Lib.hid (⟨hf⟩ : RdI w41 A41 _ _); clear hf
  have CF8 := Lib.hid (⟨hbl, hcl⟩ : CellI w41 b41 o41 _); clear hbl hcl
  have k1 := KB.out.cell
  have k2 := KB.out.lt
  have F5' : Blk w41 g25 107 #[.string ⟨#[97]⟩, .int .i64 120, .bool false, .bool false, .string ⟨#[98]⟩, .int .i64 150, .bool false, .bool false, .string ⟨#[99]⟩, .int .i64 120, .bool true, .bool false, .string ⟨#[100]⟩, .int .i64 180, .bool false, .bool true] := F5.out
  have k3 := F5'.cell
  have k4 := F5.out.lt
  have k5 := KC.out.cell
  have k6 := KC.out.lt

  go_wp2_with fail
  refine (same_I [3, 2, 0, 3] _ rfl rfl (by decide) F6.out.out).mono ?_
  rintro e w42 ⟨rfl, hb⟩
  clear F6
  have hs42 := hb.size
  have HL' := Lib.hid (HL.out.trans (hb.mono HL.out.size)); clear HL; have HL := HL'; clear HL'
  have HT' := Lib.hid (HT.out.kept hb); clear HT; have HT := HT'; clear HT'
  have F7' := Lib.hid (F7.out.kept hb); clear F7; have F7 := F7'; clear F7'
  have KC' := Lib.hid (KC.out.kept hb); clear KC; have KC := KC'; clear KC'
  have F8' := Lib.hid (F8.out.kept hb); clear F8; have F8 := F8'; clear F8'
  have CF8' := Lib.hid (CF8.out.kept hb); clear CF8; have CF8 := CF8'; clear CF8'
  clear hb
  clear k1 k2 k3 k4 k5 k6 F5' KB F5
  have k1 := KC.out.cell
  have k2 := KC.out.lt
  have F7' : Blk w42 g33 107 #[.string ⟨#[97]⟩, .int .i64 180, .bool true, .bool false, .string ⟨#[98]⟩, .int .i64 150, .bool false, .bool false, .string ⟨#[99]⟩, .int .i64 190, .bool false, .bool false, .string ⟨#[100]⟩, .int .i64 180, .bool false, .bool true] := F7.out
  have k3 := F7'.cell
  have k4 := F7'.lt
  have k5 := CF8.out.out
  have k6 := CF8.out.lt
  clear F7'
  go_wp2_with fail
  refine (same_S F8.out.out).mono ?_
  rintro e w43 ⟨rfl, hb⟩
  have hs43 := hb.size
  have HL' := Lib.hid (HL.out.trans (hb.mono HL.out.size))
  clear hb k1 k2 k3 k4 k5 k6
  go_wp2_with fail
  go_ret
  exact ⟨congrArg (fun b => Ending.returned (Value.bool b)) (by decide +kernel), HL'.out⟩
end Go.Proofs.YtjanojmgnpfjeaaGreatDoor
/- What the arm's laws call, in the form in which they call it. -/
namespace Go.Proofs.YtjanojmgnpfjeaaGreatDoor
open Go Go.RowKit Go.Sort Go.Shelf
set_option linter.unusedSimpArgs false
set_option linter.unusedVariables false
attribute [local go_sem] cell_if frozen_if grow_cell
def OwnR (w : World) (a : Ar) (n : Nat) (e : Ending) (w' : World) : Prop := ∃ A c, e = .returned (.agg #[.slice A n c, .int .i64 a.lo, .int .i64 a.hi, .int .i64 a.cur, .int .i64 a.lim]) ∧ MsAt w' w'.heap.size A n a.m ∧ n ≤ c ∧ Below w.heap.size w w'
theorem own_r (B : Nat) (A : Option Addr) (n c : Nat) (a : Ar) (w : World) (hM : MsAt w B A n a.m) (hB : B ≤ w.heap.size) (hn : n ≤ 1000) : Calls Tryz.prog 10 #[.agg #[.slice A n c, .int .i64 a.lo, .int .i64 a.hi, .int .i64 a.cur, .int .i64 a.lim]] w (OwnR w a n) := by
  have hl := (md_at hM).1
  refine (own_any B A n c a w hM hB hn).mono ?_
  rintro e w' ⟨v, A', c', rfl, rfl, ho, hc, hb⟩
  obtain ⟨A2, c2, e2, _, _, hr⟩ := own_form ho
  cases e2
  subst hl
  exact ⟨A', c', rfl, hr, hc, hb⟩
theorem told_r (B : Nat) (A : Option Addr) (n c : Nat) (a : Ar) (w : World) (hM : MsAt w B A n a.m) (hB : B ≤ w.heap.size) (hn : n ≤ 1000) : Calls Tryz.prog 22 #[.agg #[.slice A n c, .int .i64 a.lo, .int .i64 a.hi, .int .i64 a.cur, .int .i64 a.lim]] w (OwnR w a n) := by
  have hl := (md_at hM).1
  refine (told_any B A n c a w hM hB hn).mono ?_
  rintro e w' ⟨v, A', c', rfl, rfl, ho, hc, hb⟩
  obtain ⟨A2, c2, e2, _, _, hr⟩ := own_form ho
  cases e2
  subst hl
  exact ⟨A', c', rfl, hr, hc, hb⟩
theorem awake_ok (w W : World) (hT : TabT w) (hb : Below w.heap.size w W) : Calls Tryz.prog 7 #[] W fun e w' => e = .returned (.bool true) ∧ Below W.heap.size W w' := awake_any W (hT.kept hb)
theorem listed_len (A1 A2 : Option Addr) (n c2 c1 : Nat) (e : Int) (w : World) (he : e ≠ 0) :
    Calls Tryz.prog 20 #[.slice A1 0 c1, .int .i64 e, .int .i64 e, .slice A2 n c2] w fun en w' => en = .returned (.bool true) ∧ Below w.heap.size w w' := by
  have hne : (e != 0) = true := by simpa using he
  go_enter Tryz.func20, Tryz.ntmps20
  go_wp2_with fail
  go_ret
  exact ⟨by first | rfl | (simp; done), bl_⟩
end Go.Proofs.YtjanojmgnpfjeaaGreatDoor
