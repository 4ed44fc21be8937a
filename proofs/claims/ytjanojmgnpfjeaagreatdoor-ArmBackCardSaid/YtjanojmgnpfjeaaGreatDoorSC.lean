/- Library: a byte's place, the cut suffix and the parts of a string. -/
import Derived.Lib.IndexLaws
import Derived.Lib.Bytealg
import Derived.Test.YtjanojmgnpfjeaaGreatDoorSB
namespace Go.Proofs.YtjanojmgnpfjeaaGreatDoor
open Go.RowKit Go.Sort Go.Shelf
set_option linter.unusedSimpArgs false
set_option linter.unusedVariables false
attribute [local go_sem] cell_if frozen_if grow_cell
set_option maxRecDepth 100000 in
theorem sIndexByte_any (s : ByteArray) (c : Int) (w : World) :
    Calls Tryz.prog 181 #[.string s, .int .u8 c] w fun e w' => e = .returned (.int .i64 (Lib.indexByte s.data.toList c.toNat.toUInt8)) ∧ w = w' := by
  go_enter Tryz.func181, Tryz.ntmps181
  go_wp2
  rw [run_callFunc_extern Tryz.func209 (by kernel_rfl) (by kernel_rfl) (by kernel_rfl) (e := Extern.BytealgIndexByte.indexByte) (by kernel_rfl), Lib.run_indexByteString]
  simp only [Result.andThen]
  rw [Oper.upon_value]
  go_wp2
  go_ret
  exact ⟨rfl, rfl⟩
theorem IndexByte_any (s : ByteArray) (c : Int) (w : World) :
    Calls Tryz.prog 136 #[.string s, .int .u8 c] w fun e w' => e = .returned (.int .i64 (Lib.indexByte s.data.toList c.toNat.toUInt8)) ∧ w = w' := by
  go_enter Tryz.func136, Tryz.ntmps136
  go_wp2_with fail
  refine (sIndexByte_any s c _).mono ?_
  rintro e w1 ⟨rfl, rfl⟩
  go_wp2_with fail
  go_ret
  exact ⟨rfl, rfl⟩
def blankB : ByteArray := ⟨#[32]⟩
theorem sIndex_any (s : ByteArray) (w : World) :
    Calls Tryz.prog 239 #[.string s, .string ⟨#[32]⟩] w fun e w' => e = .returned (.int .i64 (Lib.indexByte s.data.toList 32)) ∧ w = w' := by
  have HI := Lib.hid (fun W => sIndexByte_any s 32 W)
  cases hq : ([32] == s.toList) with
  | true =>
    have e : Lib.indexByte s.data.toList 32 = 0 := by
      have := eq_of_beq hq
      rw [toList_data] at this
      rw [← this]
      rfl
    rw [e]
    clear e
    go_enter Tryz.func239, Tryz.ntmps239
    go_wp2_with fail
    go_ret
    exact ⟨rfl, rfl⟩
  | false =>
    go_enter Tryz.func239, Tryz.ntmps239
    go_wp2_with fail
    refine (HI.out _).mono ?_
    rintro e w1 ⟨rfl, rfl⟩
    go_wp2_with fail
    go_ret
    exact ⟨rfl, rfl⟩
theorem Index_any (s : ByteArray) (w : World) :
    Calls Tryz.prog 212 #[.string s, .string ⟨#[32]⟩] w fun e w' => e = .returned (.int .i64 (Lib.indexByte s.data.toList 32)) ∧ w = w' := by
  go_enter Tryz.func212, Tryz.ntmps212
  go_wp2_with fail
  refine (sIndex_any s _).mono ?_
  rintro e w1 ⟨rfl, rfl⟩
  go_wp2_with fail
  go_ret
  exact ⟨rfl, rfl⟩
set_option maxRecDepth 100000 in
theorem Count_any (s : ByteArray) (w : World) :
    Calls Tryz.prog 211 #[.string s, .string ⟨#[32]⟩] w fun e w' => e = .returned (.int .i64 (Lib.countByte s.data.toList 32)) ∧ w = w' := by
  go_enter Tryz.func211, Tryz.ntmps211
  go_wp2
  rw [run_callFunc_extern Tryz.func238 (by kernel_rfl) (by kernel_rfl) (by kernel_rfl) (e := Extern.BytealgCount.count) (by kernel_rfl), Lib.run_countString]
  simp only [Result.andThen]
  rw [Oper.upon_value]
  go_wp2
  go_ret
  exact ⟨rfl, rfl⟩
/-- The last byte is a newline. -/
def endB (s : ByteArray) : Bool := (s.extract (s.size - 1) s.size).toList == [10]
def cutB (s : ByteArray) : ByteArray := s.extract 0 (s.size - 1)
theorem endB_none {s : ByteArray} (h : s.size = 0) : endB s = false := by
  unfold endB
  have : s = ⟨#[]⟩ := by
    apply ByteArray.ext
    exact Array.eq_empty_of_size_eq_zero h
  rw [this, toList_data]
  rfl
theorem HasSuffix_any (s : ByteArray) (w : World) (hs : s.size ≤ 100000) :
    Calls Tryz.prog 182 #[.string s, .string ⟨#[10]⟩] w fun e w' => e = .returned (.bool (endB s)) ∧ w = w' := by
  by_cases h0 : s.size = 0
  · rw [endB_none h0]
    have h1 : ¬ (1 : Int) ≤ (s.size : Int) := by omega
    go_enter Tryz.func182, Tryz.ntmps182
    go_wp2_with fail
    go_ret
    exact ⟨rfl, rfl⟩
  · obtain ⟨m, hm⟩ : ∃ m, s.size = m + 1 := ⟨s.size - 1, by omega⟩
    have HE : Hid (endB s = ((s.extract m s.size).toList == [10])) := by show _ = _; unfold endB; rw [show s.size - 1 = m by omega]
    rw [HE.out]
    have h1 : (1 : Int) ≤ (s.size : Int) := by omega
    have hwr : IntKind.i64.wrap ((s.size : Int) - 1) = (m : Int) := by rw [IntKind.wrap_i64]; omega
    have hmn : m ≤ s.size := by omega
    clear hm h0
    go_enter Tryz.func182, Tryz.ntmps182
    go_wp2_with fail
    go_ret
    exact ⟨rfl, rfl⟩
theorem sCutSuffix_any (s : ByteArray) (w : World) (hs : s.size ≤ 100000) :
    Calls Tryz.prog 137 #[.string s, .string ⟨#[10]⟩] w fun e w' => e = .returned (.tuple #[.string (if endB s then cutB s else s), .bool (endB s)]) ∧ w = w' := by
  have HS := Lib.hid (fun W => HasSuffix_any s W hs)
  have HE0 := Lib.hid (fun h : s.size = 0 => endB_none h)
  cases hq : endB s with
  | false =>
    rw [hq] at HS
    go_enter Tryz.func137, Tryz.ntmps137
    go_wp2_with fail
    refine (HS.out _).mono ?_
    rintro e w1 ⟨rfl, rfl⟩
    go_wp2_with fail
    go_ret2
    exact ⟨rfl, rfl⟩
  | true =>
    rw [hq] at HS
    obtain ⟨m, hm⟩ : ∃ m, s.size = m + 1 := ⟨s.size - 1, by
      have : s.size ≠ 0 := fun h => by rw [HE0.out h] at hq; cases hq
      omega⟩
    have HC : Hid (cutB s = s.extract 0 m) := by show _ = _; unfold cutB; rw [show s.size - 1 = m by omega]
    rw [HC.out]
    have hwr : IntKind.i64.wrap ((s.size : Int) - 1) = (m : Int) := by rw [IntKind.wrap_i64]; omega
    have hmn : m ≤ s.size := by omega
    clear hm
    go_enter Tryz.func137, Tryz.ntmps137
    go_wp2_with fail
    refine (HS.out _).mono ?_
    rintro e w1 ⟨rfl, rfl⟩
    go_wp2_with fail
    go_ret2
    exact ⟨rfl, rfl⟩
theorem CutSuffix_any (s : ByteArray) (w : World) (hs : s.size ≤ 100000) :
    Calls Tryz.prog 84 #[.string s, .string ⟨#[10]⟩] w fun e w' => e = .returned (.tuple #[.string (if endB s then cutB s else s), .bool (endB s)]) ∧ w = w' := by
  have HS := Lib.hid (fun W => sCutSuffix_any s W hs)
  generalize (if endB s then cutB s else s) = b at *
  generalize endB s = q at *
  go_enter Tryz.func84, Tryz.ntmps84
  go_wp2_with fail
  refine (HS.out _).mono ?_
  rintro e w1 ⟨rfl, rfl⟩
  go_wp2_with fail
  go_ret2
  exact ⟨rfl, rfl⟩
/-- The parts by the place of the first byte c. -/
theorem spl_at {c : UInt8} : ∀ {l : List UInt8} {o : Nat}, Lib.indexByte l c = o → spl c l = l.take o :: spl c (l.drop (o + 1))
  | [], o, h => by
    have := Lib.indexByte_some h
    simp at this
  | b :: r, o, h => by
    obtain ⟨h1, h2⟩ := Lib.indexByte_some h
    cases hb : (b == c) with
    | true =>
      have : o = 0 := by
        rcases Nat.eq_zero_or_pos o with h | h
        · exact h
        · exact absurd (by rw [eq_of_beq hb]; rfl) (h2 0 h)
      subst this
      rw [spl_eq hb]
      rfl
    | false =>
      cases o with
      | zero =>
        rw [List.getElem?_cons_zero] at h1
        cases h1
        rw [beq_self_eq_true] at hb
        cases hb
      | succ o =>
        have hr : Lib.indexByte r c = o := by
          rcases Lib.indexByte_ge r c with hg
          have hlt : ∀ k, k < o → r[k]? ≠ some c := fun k hk => h2 (k + 1) (by omega)
          have hat : r[o]? = some c := h1
          have hn : Lib.indexByte r c ≠ -1 := fun e => Lib.indexByte_none e o hat
          obtain ⟨m, hm⟩ := Int.eq_ofNat_of_zero_le (show 0 ≤ Lib.indexByte r c by omega)
          obtain ⟨g1, g2⟩ := Lib.indexByte_some hm
          rw [hm]
          congr 1
          rcases Nat.lt_trichotomy m o with h | h | h
          · exact absurd g1 (hlt m h)
          · exact h
          · exact absurd hat (g2 o h)
        rw [spl_cons hb (spl_at hr)]
        rfl
theorem spl_free {c : UInt8} {l : List UInt8} (h : Lib.indexByte l c = -1) : spl c l = [l] :=
  spl_none (fun hm => by
    obtain ⟨k, hk, e⟩ := List.getElem_of_mem hm
    exact Lib.indexByte_none h k (by rw [List.getElem?_eq_getElem hk, e]))
theorem spl_count (c : UInt8) : ∀ l : List UInt8, (spl c l).length = Lib.countByte l c + 1
  | [] => rfl
  | b :: r => by
    have ih := spl_count c r
    unfold Lib.countByte at ih ⊢
    cases hb : (b == c) with
    | true =>
      rw [spl_eq hb, List.length_cons, ih, eq_of_beq hb, List.count_cons_self]
    | false =>
      cases hr : spl c r with
      | nil => exact absurd hr (spl_ne c r)
      | cons p ps =>
        rw [spl_cons hb hr, List.length_cons, List.count_cons_of_ne (by simpa using hb), ← ih, hr]
        rfl
theorem spl_single {c : UInt8} {l : List UInt8} (h : (spl c l).length = 1) : spl c l = [l] := by
  have hg := Lib.indexByte_ge l c
  rcases Int.lt_or_le (Lib.indexByte l c) 0 with h' | h'
  · exact spl_free (l := l) (c := c) (by omega)
  · obtain ⟨o, ho⟩ := Int.eq_ofNat_of_zero_le h'
    rw [spl_at ho, List.length_cons] at h
    exact absurd (List.eq_nil_of_length_eq_zero (Nat.succ.inj h)) (spl_ne c _)
theorem spl_more {c : UInt8} {l : List UInt8} (h : 1 < (spl c l).length) : ∃ o : Nat, Lib.indexByte l c = o ∧ o < l.length := by
  have hg := Lib.indexByte_ge l c
  rcases Int.lt_or_le (Lib.indexByte l c) 0 with h' | h'
  · rw [spl_free (l := l) (c := c) (by omega)] at h
    exact absurd h (by simp)
  · obtain ⟨o, ho⟩ := Int.eq_ofNat_of_zero_le h'
    exact ⟨o, ho, (List.getElem?_eq_some_iff.1 (Lib.indexByte_some ho).1).1⟩
set_option maxRecDepth 10000 in
theorem ext_take (s : ByteArray) (k : Nat) : s.extract 0 k = toB (s.data.toList.take k) := by
  apply ByteArray.ext
  show (s.extract 0 k).data = (s.data.toList.take k).toArray
  rw [ByteArray.data_extract]
  apply Array.toList_inj.1
  simp
set_option maxRecDepth 10000 in
theorem ext_drop (s : ByteArray) (k : Nat) : s.extract k s.size = toB (s.data.toList.drop k) := by
  apply ByteArray.ext
  show (s.extract k s.size).data = (s.data.toList.drop k).toArray
  rw [ByteArray.data_extract]
  apply Array.toList_inj.1
  rw [Array.toList_extract, List.extract_eq_take_drop]
  show (s.data.toList.drop k).take (s.data.size - k) = _
  rw [List.take_of_length_le (by simp)]
theorem toB_list (l : List UInt8) : (toB l).data.toList = l := rfl
def SplitR (w : World) (ps : List ByteArray) (e : Ending) (w' : World) : Prop := ∃ g cap, e = .returned (.slice (some ⟨g, 0, none⟩) ps.length cap) ∧ ps.length ≤ cap ∧ Reads w' (g + 1) 1 (some ⟨g, 0, none⟩) ps.length (ps.map .string) ∧ (w.heap.size ≤ g ∧ g < w'.heap.size) ∧ Below w.heap.size w w'
def partsA (ps : List (List UInt8)) (m : Nat) : Array Value := (ps.map (fun l => Value.string (toB l)) ++ List.replicate m (Value.string ⟨#[]⟩)).toArray
set_option maxRecDepth 10000 in
theorem partsA_set (ps : List (List UInt8)) (m : Nat) (l : List UInt8) : (partsA ps (m + 1)).setIfInBounds ps.length (.string (toB l)) = partsA (ps ++ [l]) m := by
  unfold partsA
  rw [List.setIfInBounds_toArray, List.replicate_succ]
  congr 1
  rw [List.set_append, if_neg (by simp), List.length_map, Nat.sub_self, List.map_append, List.append_assoc]
  rfl
theorem made_strs (n : Nat) : madeCells (Value.string ⟨#[]⟩).cells n = partsA [] n := by
  apply Array.ext
  · rw [size_madeCells]; simp [partsA]
  · intro i h1 h2
    simp [madeCells, Value.cells, Nat.mod_one, partsA]
theorem partsA_size (ps : List (List UInt8)) (m : Nat) : (partsA ps m).size = ps.length + m := by simp [partsA]
set_option maxRecDepth 100000 in
set_option maxHeartbeats 2000000 in
theorem genSplit_any (s : ByteArray) (w : World) (hs : s.size ≤ 100000) :
    Calls Tryz.prog 183 #[.string s, .string ⟨#[32]⟩, .int .i64 0, .int .i64 (-1)] w (SplitR w (spL s 32)) := by
  have e0 : spL s 32 = (spl 32 s.data.toList).map toB := spL_spl s 32
  have hct := spl_count 32 s.data.toList
  have hcl : Lib.countByte s.data.toList 32 ≤ s.size := by
    unfold Lib.countByte
    exact Nat.le_trans (List.count_le_length ..) (by rw [Array.length_toList]; exact Nat.le_refl _)
  have HE := Lib.hid e0
  have HC := Lib.hid (Count_any s w)
  have HI := Lib.hid (fun r W => Index_any r W)
  generalize hn : Lib.countByte s.data.toList 32 = n at *
  have HCT := Lib.hid hct
  clear e0 hn hct
  have hmin : min (n : Int) (s.size : Int) = (n : Int) := by omega
  obtain ⟨ht, ⟨ix, z, g1, g2, g3, g4, g5⟩, hp⟩ := elemStr
  have hz : z = .string ⟨#[]⟩ := by
    have : (Tryz.prog.info? 9).bind (·.zero) = some (.string ⟨#[]⟩) := by kernel_rfl
    rw [g1] at this
    simpa [g2] using this
  subst hz
  have hm1 : ∀ w, (Instr.makeSlice 60 (.int .i64 ((n : Int) + 1)) (.int .i64 ((n : Int) + 1))).run Tryz.prog w = .ok (.slice (some ⟨w.heap.size, 0, none⟩) (n + 1) (n + 1)) (w.alloc (.cells (partsA [] (n + 1)) 9)) := fun w => by
    have := run_make (P := Tryz.prog) w _ _ ix (.string ⟨#[]⟩) ht g1 g2 .i64 .i64 ((n : Int) + 1) ((n : Int) + 1) (by omega) (by omega) (by rw [g4]; omega) (by omega)
    rw [g3, made_strs] at this
    have e : ((n : Int) + 1).toNat = n + 1 := by omega
    rw [e, Nat.mul_one] at this
    exact this
  clear g1 g2 g3 g4 g5 ht hp
  go_enter Tryz.func183, Tryz.ntmps183
  go_wp2_with fail
  refine HC.out.mono ?_
  rintro e w1 ⟨rfl, rfl⟩
  go_wp2_with fail
  go_loopw [0, 10] (fun rv iv wr => ∃ (r : ByteArray) (ps : List (List UInt8)) (m : Nat), rv = .string r ∧ iv = .int .i64 (ps.length : Int) ∧ ps.length + m = n + 1 ∧ 0 < m ∧ Hid (spl 32 s.data.toList = ps ++ spl 32 r.data.toList) ∧ r.size ≤ s.size ∧ Blk wr w.heap.size 9 (partsA ps m) ∧ Below w.heap.size w wr) (fun _ iv _ => n + 1 - (intOf iv).toNat)
  case atStart => exact ⟨s, [], n + 1, rfl, rfl, by simp, Nat.succ_pos _, Lib.hid rfl, Nat.le_refl _, bk_, bl_⟩
  case round =>
    obtain ⟨r, ps, m, rfl, rfl, hpm, hm0, hsp, hrs, bk, hb⟩ := hrel
    have cb := bk.cell
    have fb := bk.frozen
    have lb := bk.lt
    have HB := Lib.hid bk
    have HL := Lib.hid hb
    have hlen : (spl 32 r.data.toList).length = m := by
      have h1 := congrArg List.length hsp.out
      rw [List.length_append, HCT.out] at h1
      omega
    have hlen := Lib.hid hlen
    clear bk hb hmin hm1
    obtain ⟨j, rfl⟩ : ∃ j, m = j + 1 := ⟨m - 1, by omega⟩
    have c1 : wr.cell? ⟨w.heap.size, ps.length, none⟩ = some (.string ⟨#[]⟩) := by
      rw [cb]
      simp [partsA, List.replicate_succ]
    have f1 := fb ps.length
    clear cb fb
    have HPL : Hid (ps.length = ps.length) := Lib.hid rfl
    generalize hk : ps.length = k at c1 f1 hpm HPL ⊢
    have HK := Lib.hid hk
    clear hk
    by_cases hj : j = 0
    · subst hj
      have hr1 := Lib.hid (spl_single hlen.out)
      obtain rfl : k = n := by omega
      have HS := Lib.hid (HB.out.set_ k (.string r))
      have HR : Hid (Reads (wr.setCell ⟨w.heap.size, k, none⟩ (.string r)) (w.heap.size + 1) 1 (some ⟨w.heap.size, 0, none⟩) (k + 1) ((spL s 32).map .string)) := Lib.hid (by
        have e : (partsA ps 1).setIfInBounds k (.string r) = partsA (ps ++ [r.data.toList]) 0 := by
          rw [← HK.out, ← partsA_set, toB_data]
        have h := HS.out
        rw [e] at h
        have h2 := Reads.blk h (size := 1) (n := k + 1) (by rw [partsA_size]; simp [HK.out])
        rw [HE.out, hsp.out, hr1.out]
        simpa [partsA, Function.comp_def] using h2)
      have hlenS : Hid ((spL s 32).length = k + 1) := Lib.hid (by rw [HE.out, List.length_map, HCT.out])
      clear hlen hsp HS
      go_wp2_with fail
      go_ret
      have hb2 := HL.out.setCell (p := ⟨w.heap.size, k, none⟩) (Nat.le_refl _) (.string r)
      exact ⟨w.heap.size, k + 1, by rw [hlenS.out]; rfl, by rw [hlenS.out]; exact Nat.le_refl _, by rw [hlenS.out]; exact HR.out, ⟨Nat.le_refl _, by simpa [World.setCell] using lb⟩, hb2⟩
    · obtain ⟨o, ho, hor⟩ := spl_more (c := 32) (l := r.data.toList) (by rw [hlen.out]; omega)
      have hor : o < r.size := by rw [Array.length_toList] at hor; exact hor
      have HSA := Lib.hid (spl_at ho)
      have HB2 : Hid (Blk (wr.setCell ⟨w.heap.size, k, none⟩ (.string (r.extract 0 o))) w.heap.size 9 (partsA (ps ++ [r.data.toList.take o]) j)) := Lib.hid (by
        have h := HB.out.set_ k (.string (r.extract 0 o))
        have e : (partsA ps (j + 1)).setIfInBounds k (.string (r.extract 0 o)) = partsA (ps ++ [r.data.toList.take o]) j := by
          rw [← HK.out, ext_take, partsA_set]
        rwa [e] at h)
      have HL2 := Lib.hid (HL.out.setCell (p := ⟨w.heap.size, k, none⟩) (Nat.le_refl _) (.string (r.extract 0 o)))
      have hkn : (k : Int) < (n : Int) := by omega
      have HIr := Lib.hid (HI.out r)
      rw [ho] at HIr
      have HO : Hid (Lib.indexByte r.data.toList 32 = o) := ho
      clear ho hlen
      have ho1 : ¬ (o : Int) < 0 := by omega
      have ho2 : o + 1 ≤ r.size := hor
      have ho3 : o ≤ r.size := by omega
      have hsr : r.size ≤ 100000 := by omega
      go_wp2_with fail
      refine (HIr.out _).mono ?_
      rintro e w1 ⟨rfl, rfl⟩
      go_wp2_with fail
      go_roundw
      case rel => exact ⟨r.extract (o + 1) r.size, ps ++ [r.data.toList.take o], j, rfl, by rw [List.length_append, HK.out]; go_num, by rw [List.length_append, HK.out]; simp; omega, by omega, Lib.hid (by rw [hsp.out, HSA.out, ext_drop, toB_list, List.append_assoc]; rfl), by rw [ByteArray.size_extract]; omega, HB2.out, HL2.out⟩
      case measure => simp [intOf]; omega
theorem SSplit_any (s : ByteArray) (w : World) (hs : s.size ≤ 100000) :
    Calls Tryz.prog 138 #[.string s, .string ⟨#[32]⟩] w (SplitR w (spL s 32)) := by
  have HS := Lib.hid (genSplit_any s w hs)
  generalize spL s 32 = ps at *
  go_enter Tryz.func138, Tryz.ntmps138
  go_wp2_with fail
  refine HS.out.mono ?_
  rintro e w1 ⟨g, cap, rfl, h1, h2, h3, h4⟩
  have HR := Lib.hid (And.intro h1 (And.intro h2 (And.intro h3 h4)))
  clear h1 h2 h3 h4
  go_wp2_with fail
  go_ret
  exact ⟨g, cap, rfl, HR.out⟩
end Go.Proofs.YtjanojmgnpfjeaaGreatDoor
