/- Reference: the parts of a string between the places of a byte; parts by recursion, in plain words. -/
import Derived.Test.YtjanojmgnpfjeaaGreatDoorQo
import Derived.Test.YtjanojmgnpfjeaaGreatDoorQj
import Derived.Test.YtjanojmgnpfjeaaGreatDoorR5
namespace Go.Proofs.YtjanojmgnpfjeaaGreatDoor
open Go.RowKit Go.Sort Go.Shelf
set_option linter.unusedSimpArgs false
set_option linter.unusedVariables false
attribute [local go_sem] cell_if frozen_if grow_cell
theorem World.grownBy_trans_alloc {w w' : World} {o : Obj} {row : Option Nat} (h : (w.alloc o).grownBy w' row) : w.grownBy w' row :=
  ⟨h.os, h.tape, h.output, by have := h.size; rw [World.size_alloc] at this; omega, fun k hk hn => (h.block k (by rw [World.size_alloc]; omega) hn).trans (Below.heap_alloc w _ k hk)⟩
section
variable {g n cap base e size : Nat}
theorem own_live {w : World} {xs : List Value} (h : Own w base e size g n cap xs) : ∀ j, j < n * size → w.cell? ⟨g, j, none⟩ = xs[j]? ∧ (w.cell? ⟨g, j, none⟩).isSome = true ∧ w.frozen? ⟨g, j, none⟩ = false := by
  intro j hj
  have hl := h.len
  have h1 := World.ownsRow.cellAt h j (by omega)
  refine ⟨h1, ?_, World.ownsRow.frozenAt h j⟩
  rw [h1, List.getElem?_eq_getElem (by omega)]
  rfl
end
def lineL (xs : List ByteArray) : List UInt8 := Lib.join (xs.map (·.data.toList)) [32] ++ [10]
theorem ba_app (l m : List UInt8) : ((⟨l.toArray⟩ : ByteArray) ++ ⟨m.toArray⟩) = ⟨(l ++ m).toArray⟩ := by
  apply ByteArray.ext
  simp
def lastB (ps : List ByteArray) : ByteArray := ps.getLast?.getD ⟨#[]⟩
def isByte (s : ByteArray) (c k : Nat) : Bool := (s.data[k]?.map UInt8.toNat) == some c
/-- The parts of the first k bytes. -/
def spTo (s : ByteArray) (c : Nat) : Nat → List ByteArray
  | 0 => [⟨#[]⟩]
  | k + 1 => if isByte s c k then spTo s c k ++ [⟨#[]⟩] else (spTo s c k).dropLast ++ [lastB (spTo s c k) ++ s.extract k (k + 1)]
def spL (s : ByteArray) (c : Nat) : List ByteArray := spTo s c s.size
theorem spTo_len (s : ByteArray) (c : Nat) : ∀ k, 0 < (spTo s c k).length ∧ (spTo s c k).length ≤ k + 1
  | 0 => ⟨Nat.zero_lt_one, Nat.le_refl _⟩
  | k + 1 => by
    have := spTo_len s c k
    unfold spTo
    split
    · rw [List.length_append]; simp; omega
    · rw [List.length_append, List.length_dropLast]; simp; omega
theorem lastB_snoc (l : List ByteArray) (x : ByteArray) : lastB (l ++ [x]) = x := by unfold lastB; simp
theorem spTo_last (s : ByteArray) (c : Nat) : ∀ k, k ≤ s.size → (lastB (spTo s c k)).size ≤ k
  | 0, _ => Nat.le_refl _
  | k + 1, h => by
    have := spTo_last s c k (by omega)
    unfold spTo
    split
    · rw [lastB_snoc]; exact Nat.zero_le _
    · rw [lastB_snoc, ByteArray.size_append, ByteArray.size_extract]; omega
theorem last_at {l : List ByteArray} (h : 0 < l.length) : l[l.length - 1]? = some (lastB l) := by
  unfold lastB
  rw [List.getLast?_eq_getElem?]
  cases e : l[l.length - 1]? with
  | some x => rfl
  | none => rw [List.getElem?_eq_none_iff] at e; omega
theorem set_last {l : List ByteArray} (h : 0 < l.length) (x : ByteArray) : l.set (l.length - 1) x = l.dropLast ++ [x] := by
  have hne : l ≠ [] := by intro h0; rw [h0] at h; exact absurd h (by decide)
  refine List.ext_getElem (by rw [List.length_set, List.length_append, List.length_dropLast]; simp; omega) fun i h1 h2 => ?_
  rw [List.length_set] at h1
  rw [List.getElem_set]
  split
  · rename_i h3
    rw [List.getElem_append_right (by rw [List.length_dropLast]; omega)]
    simp
  · rw [List.getElem_append_left (by rw [List.length_dropLast]; omega), List.getElem_dropLast]
def SplitRes (w : World) (ps : List ByteArray) (e : Ending) (w' : World) : Prop := ∃ g cap, e = .returned (.slice (some ⟨g, 0, none⟩) ps.length cap) ∧ Own w' w.heap.size 9 1 g ps.length cap (ps.map .string) ∧ Below w.heap.size w w'
theorem byte_eq {s : ByteArray} {c k : Nat} (hk : k < s.size) : (((s[k]).toNat : Int) == (c : Int)) = isByte s c k := by
  unfold isByte
  rw [Array.getElem?_eq_getElem (by simpa using hk)]
  rw [Bool.eq_iff_iff]
  simp
  constructor
  · intro h; exact_mod_cast h
  · intro h; exact_mod_cast h
set_option maxRecDepth 100000 in
set_option maxHeartbeats 4000000 in
theorem Split_any (s : ByteArray) (c : Nat) (w : World) (hs : s.size ≤ 100000) :
    Calls Tryz.prog 28 #[.string s, .int .u8 c] w (SplitRes w (spL s c)) := by
  have HLn := Lib.hid (fun k => spTo_len s c k)
  have HLa := Lib.hid (fun k h => spTo_last s c k h)
  have BL := Lib.hid (Own.new w w.heap.size 9 1 1 #[.string ⟨#[]⟩] (Nat.le_refl _) rfl (by unfold maxLen; decide))
  go_enter Tryz.func28, Tryz.ntmps28
  go_wp2_with fail
  go_loopw [5, 6] (fun v i W => ∃ (k : Nat) (g cap n : Nat), i = .int .i64 k ∧ v = .slice (some ⟨g, 0, none⟩) n cap ∧ k ≤ s.size ∧ Hid (n = (spTo s c k).length) ∧ Own W w.heap.size 9 1 g n cap ((spTo s c k).map .string) ∧ Below w.heap.size w W) (fun _ i _ => s.size - (intOf i).toNat)
  case atStart => exact ⟨0, w.heap.size, 1, 1, rfl, rfl, by omega, Lib.hid rfl, BL.out, bl_⟩
  case round =>
    clear BL
    obtain ⟨k, g, cap, n, rfl, rfl, hk, hn, hO, hb⟩ := hrel
    have hsr := hb.size
    have HO := Lib.hid hO
    have HB := Lib.hid hb
    have hn2 : 0 < n ∧ n ≤ k + 1 := by rw [hn.out]; exact HLn.out k
    clear hO
    by_cases hlt : k < s.size
    · have hbe := byte_eq (c := c) hlt
      cases hq : isByte s c k with
      | true =>
        as_aux_lemma =>
          rw [hq] at hbe
          have HS : Hid (spTo s c (k + 1) = spTo s c k ++ [⟨#[]⟩]) := by show _ = _; rw [spTo, if_pos hq]
          clear hq
          go_wp2_with (at_builtin; refine wpList_appB 60 9 1 16 elemStr rfl (.tmp 19) (.tmp 20) rfl w.heap.size _ n _ rfl (World.ownsRow.alloc HO.out _) wr.heap.size 1 #[.string ⟨#[]⟩] rfl (Blk.new _ _ _) rfl ?h1 (by decide) ?h3 ?h4 ?h5 ?_)
          case h1 => rfl
          case h3 => unfold maxLen; omega
          case h4 => omega
          case h5 => simp; omega
          intro g' cap' w7 hown7 hg7 hat7
          have hg6 : wr.grownBy w7 _ := World.grownBy_trans_alloc hg7
          have HO7 := Lib.hid hown7
          have HB7 := Lib.hid (HB.out.grown hg6 hsr (fun k e => (World.ownsRow.lt HO.out k e).1))
          clear hown7 hg7 hg6 hat7 hb
          go_wp2
          go_roundw
          case rel => exact ⟨k + 1, g', cap', n + 1, by go_num, rfl, by omega, (by show _ = _; rw [HS.out, hn.out]; simp), (by rw [HS.out, List.map_append]; exact HO7.out), HB7.out⟩
          case measure => simp [intOf]; omega
      | false =>
        as_aux_lemma =>
          rw [hq] at hbe
          have HS : Hid (spTo s c (k + 1) = (spTo s c k).dropLast ++ [lastB (spTo s c k) ++ s.extract k (k + 1)]) := by show _ = _; rw [spTo, hq]; rfl
          have hla := HLa.out k hk
          have hlv := own_live HO.out (n - 1) (by omega)
          have hcv : wr.cell? ⟨g, n - 1, none⟩ = some (.string (lastB (spTo s c k))) := by
            rw [hlv.1, List.getElem?_map, hn.out, last_at (by rw [← hn.out]; exact hn2.1)]
            rfl
          obtain ⟨_, _, hfv⟩ := hlv
          have hgl := HO.out.lt.2
          have hrow : ((spTo s c k).map Value.string).set (n - 1) (.string (lastB (spTo s c k) ++ s.extract k (k + 1))) = (spTo s c (k + 1)).map Value.string := by
            rw [HS.out, ← set_last (by rw [← hn.out]; exact hn2.1), ← hn.out, List.map_set]
          have HN := Lib.hid (fun W (hW : Below wr.heap.size wr W) => (show Own (W.setCell ⟨g, n - 1, none⟩ (.string (lastB (spTo s c k) ++ s.extract k (k + 1)))) w.heap.size 9 1 g n cap ((spTo s c (k + 1)).map .string) from by
            have h := (World.ownsRow.stored (own_kept HO.out hW) (n - 1) (.string (lastB (spTo s c k) ++ s.extract k (k + 1)))).1
            rwa [hrow] at h))
          have hg0 := HO.out.lt.1
          have HNl : Hid (n = (spTo s c (k + 1)).length) := by show _ = _; rw [HS.out, hn.out, List.length_append, List.length_dropLast]; have := hn2.1; rw [hn.out] at this; simp; omega
          generalize lastB (spTo s c k) = x at *
          have hsz : ¬ (9223372036854775807 : Nat) < x.size + (s.extract k (k + 1)).size := by rw [ByteArray.size_extract]; omega
          obtain ⟨m, rfl⟩ : ∃ m, n = m + 1 := ⟨n - 1, by omega⟩
          clear hrow hq
          simp only [Nat.add_sub_cancel] at hcv hfv HN
          have hwr : IntKind.i64.wrap ((m : Int) + 1 - 1) = (m : Int) := by rw [IntKind.wrap_i64]; omega
          have hwr3 : IntKind.i64.wrap (m : Int) = (m : Int) := by rw [IntKind.wrap_i64]; omega
          have hk1 : k + 1 ≤ s.size := hlt
          have hwr2 : IntKind.i64.wrap ((k : Int) + 1) = (k : Int) + 1 := by rw [IntKind.wrap_i64]; omega
          go_wp2_with fail
          (refine wp_region_calm [g] [0, 1, 2, 3, 4, 5, 6, 7, 8, 10, 11, 12, 13, 14] 4 (by kernel_rfl) rfl (by kernel_rfl) (by kernel_rfl) (by kernel_rfl) ?_; simp only [pickB, List.filterMap_cons, List.filterMap_nil, List.getElem?_toArray, List.getElem?_cons_zero, List.getElem?_cons_succ]; (repeat (first | ((first | (with_reducible refine quietL_plain rfl (fun K hK => ?_)) | (with_reducible refine quietL_want (by with_unfolding_all rfl) (fun K hK => ?_))); (apply Exists.intro; refine ⟨fun wx hx => ?_, ?_⟩; (· (have hcx := ifs_ex hx); simp [go_sem, *, ↓IntWalk.iteOmega] <;> (first | rfl | exact ⟨rfl, rfl⟩ | fail)); (simp only [Act.put, List.setIfInBounds_toArray, List.set_cons_zero, List.set_cons_succ]; refine hK _ ?_; clear hK K))) | ((with_reducible refine quietL_skip (by with_unfolding_all rfl) ?_); simp only [Act.put, List.setIfInBounds_toArray, List.set_cons_zero, List.set_cons_succ]))); refine quietL_nil ?_)
          refine anyB_one (i := 9) (by kernel_rfl) rfl rfl ?_
          intro w1 hb1 K1 hK1
          have hs1 := hb1.size
          have c1 := (hb1.cell (p := ⟨g, m, none⟩) hgl).trans hcv
          have l1 : g < w1.heap.size := by omega
          go_wp2
          refine ⟨xs_, ?_⟩
          refine anyB_one (i := 15) (by kernel_rfl) rfl rfl ?_
          intro w2 hb2 K2 hK2
          have hs2 := hb2.size
          go_wp2
          refine ⟨xs_, ?_⟩
          refine anyB_one (i := 16) (by kernel_rfl) rfl rfl ?_
          intro w2' hb2' K3 hK3
          have hs2' := hb2'.size
          go_wp2
          refine ⟨xs_, ?_⟩
          refine anyB_one (i := 17) (by kernel_rfl) rfl rfl ?_
          intro w3 hb3' K hK
          have hb3 := below_trans hb1 (below_trans hb2 (below_trans hb2' hb3'))
          have hs3 := hb3.size
          have c3 := (hb3.cell (p := ⟨g, m, none⟩) hgl).trans hcv
          have f3 := (hb3.frozen (p := ⟨g, m, none⟩) hgl).trans hfv
          have l3 : g < w3.heap.size := by omega
          have HN3 := Lib.hid (HN.out w3 hb3)
          have HB3 := Lib.hid ((HB.out.trans (hb3.mono hsr)).setCell (p := ⟨g, m, none⟩) hg0 (.string (x ++ s.extract k (k + 1))))
          go_wp2
          refine ⟨xs_, ?_⟩
          refine anyB_end (by kernel_rfl) ?_
          intro w4 hb4
          simp only [Calm]
          have HN4 := Lib.hid (own_kept HN3.out hb4)
          have HB4 := Lib.hid (HB3.out.trans (hb4.mono HB3.out.size))
          clear hb1 hb2 hb2' hb3' hb3 hb4 hb c1 l1 c3 f3 l3 hcv hfv
          go_wp2_with fail
          go_roundw
          case rel => exact ⟨k + 1, g, cap, m + 1, by go_num, rfl, by omega, HNl, HN4.out, HB4.out⟩
          case measure => simp [intOf]; omega
    · obtain rfl : k = s.size := by omega
      as_aux_lemma =>
        go_wp2_with fail
        go_ret
        have e := hn.out
        subst e
        exact ⟨g, cap, rfl, HO.out, HB.out⟩
/-- The parts between the places of a byte. -/
def spl (c : UInt8) : List UInt8 → List (List UInt8)
  | [] => [[]]
  | b :: r => if b == c then [] :: spl c r else match spl c r with
    | [] => [[b]]
    | p :: ps => (b :: p) :: ps
theorem spl_ne (c : UInt8) : ∀ l, spl c l ≠ []
  | [] => by simp [spl]
  | b :: r => by
    unfold spl
    split
    · simp
    · split <;> simp
theorem spl_eq {c b : UInt8} (h : (b == c) = true) (r : List UInt8) : spl c (b :: r) = [] :: spl c r := if_pos h
theorem spl_cons {c b : UInt8} (h : (b == c) = false) {r p : List UInt8} {ps : List (List UInt8)} (hr : spl c r = p :: ps) : spl c (b :: r) = (b :: p) :: ps := by
  show (if b == c then _ else _) = _
  rw [h, if_neg (by decide), hr]
def lastL (l : List (List UInt8)) : List UInt8 := l.getLast?.getD []
theorem lastL_cons {p q : List UInt8} {ps : List (List UInt8)} : lastL (p :: q :: ps) = lastL (q :: ps) := by
  unfold lastL
  rw [List.getLast?_cons_cons]
theorem spl_snoc (c b : UInt8) : ∀ l, spl c (l ++ [b]) = if b == c then spl c l ++ [[]] else (spl c l).dropLast ++ [lastL (spl c l) ++ [b]]
  | [] => by
    show (if b == c then [] :: spl c [] else _) = _
    split
    · rfl
    · rfl
  | a :: r => by
    have ih := spl_snoc c b r
    cases ha : (a == c) with
    | true =>
      rw [List.cons_append, spl_eq ha, spl_eq ha, ih]
      cases hr : spl c r with
      | nil => exact absurd hr (spl_ne c r)
      | cons p ps =>
        split
        · rfl
        · rw [List.dropLast_cons_cons, lastL_cons]; rfl
    | false =>
      cases hr : spl c r with
      | nil => exact absurd hr (spl_ne c r)
      | cons p ps =>
        rw [hr] at ih
        rw [List.cons_append, spl_cons ha hr]
        cases hb : (b == c) with
        | true =>
          rw [hb, if_pos rfl] at ih
          rw [if_pos rfl, spl_cons ha (p := p) (ps := ps ++ [[]]) (by rw [ih]; rfl)]
          rfl
        | false =>
          rw [hb, if_neg (by decide)] at ih
          rw [if_neg (by decide)]
          cases ps with
          | nil => rw [spl_cons ha (p := p ++ [b]) (ps := []) (by rw [ih]; rfl)]; rfl
          | cons q qs =>
            rw [spl_cons ha (p := p) (ps := (q :: qs).dropLast ++ [lastL (q :: qs) ++ [b]]) (by rw [ih, lastL_cons]; rfl)]
            rw [lastL_cons]
            rfl
def toB (l : List UInt8) : ByteArray := ⟨l.toArray⟩
theorem lastB_map (l : List (List UInt8)) : lastB (l.map toB) = toB (lastL l) := by
  unfold lastB lastL
  rw [List.getLast?_map]
  cases l.getLast? <;> rfl
theorem toB_app (a b : List UInt8) : toB a ++ toB b = toB (a ++ b) := ba_app a b
theorem extract_one {s : ByteArray} {k : Nat} (hk : k < s.size) : s.extract k (k + 1) = toB [s.data[k]'(by simpa using hk)] := by
  apply ByteArray.ext
  show (s.extract k (k + 1)).data = #[_]
  rw [ByteArray.data_extract]
  apply Array.ext
  · simp; omega
  · intro i h1 h2
    simp at h2
    subst h2
    simp
theorem spTo_spl (s : ByteArray) (c : UInt8) : ∀ k, k ≤ s.size → spTo s c.toNat k = (spl c (s.data.toList.take k)).map toB
  | 0, _ => rfl
  | k + 1, h => by
    have hk : k < s.size := h
    have hk' : k < s.data.toList.length := by simpa using hk
    have ih := spTo_spl s c k (by omega)
    have e : s.data.toList.take (k + 1) = s.data.toList.take k ++ [s.data[k]'(by simpa using hk)] := by
      rw [List.take_succ_eq_append_getElem hk']
      simp
    have hb : isByte s c.toNat k = (s.data[k]'(by simpa using hk) == c) := by
      unfold isByte
      rw [Array.getElem?_eq_getElem (by simpa using hk)]
      rw [Bool.eq_iff_iff]
      simp [UInt8.toNat_inj]
    rw [spTo, e, spl_snoc, hb, ih, extract_one hk]
    cases hq : (s.data[k]'(by simpa using hk) == c) with
    | true => rw [if_pos rfl, if_pos rfl, List.map_append]; rfl
    | false => rw [if_neg (by decide), if_neg (by decide), List.map_append, List.map_dropLast, lastB_map, toB_app]; rfl
theorem spL_spl (s : ByteArray) (c : UInt8) : spL s c.toNat = (spl c s.data.toList).map toB := by
  unfold spL
  rw [spTo_spl s c s.size (Nat.le_refl _), List.take_of_length_le (by simp)]
theorem spL_cons (s : ByteArray) (c : Nat) : ∃ x r, spL s c = x :: r := by
  have := (spTo_len s c s.size).1
  unfold spL
  cases h : spTo s c s.size with
  | nil => rw [h] at this; exact absurd this (by decide)
  | cons x r => exact ⟨x, r, rfl⟩
theorem spl_none {c : UInt8} : ∀ {l : List UInt8}, c ∉ l → spl c l = [l]
  | [], _ => rfl
  | b :: r, h => by
    have hb : (b == c) = false := beq_eq_false_iff_ne.2 (fun e => h (by rw [e]; exact List.mem_cons_self ..))
    exact spl_cons hb (spl_none (fun hc => h (List.mem_cons_of_mem _ hc)))
theorem spl_app {c : UInt8} (r : List UInt8) : ∀ {l : List UInt8}, c ∉ l → spl c (l ++ c :: r) = l :: spl c r
  | [], _ => spl_eq (beq_self_eq_true c) r
  | b :: l, h => by
    have hb : (b == c) = false := beq_eq_false_iff_ne.2 (fun e => h (by rw [e]; exact List.mem_cons_self ..))
    exact spl_cons hb (spl_app r (fun hc => h (List.mem_cons_of_mem _ hc)))
theorem join_more (x z : List UInt8) (r : List (List UInt8)) : Lib.join (x :: z :: r) [32] = x ++ 32 :: Lib.join (z :: r) [32] := by
  rw [Lib.join_cons, Lib.join_cons]
  unfold Lib.joinTail
  simp
/-- Words that are joined by blanks fall apart again. -/
theorem spl_join : ∀ {ws : List (List UInt8)}, ws ≠ [] → (∀ x ∈ ws, (32 : UInt8) ∉ x) → spl 32 (Lib.join ws [32]) = ws
  | [], h, _ => absurd rfl h
  | [x], _, h => by rw [Lib.join_one]; exact spl_none (h x (List.mem_cons_self ..))
  | x :: z :: r, _, h => by
    rw [join_more, spl_app _ (h x (List.mem_cons_self ..)), spl_join (by simp) (fun u hu => h u (List.mem_cons_of_mem _ hu))]
theorem join_free {c : UInt8} (hc : c ≠ 32) : ∀ {ws : List (List UInt8)}, (∀ x ∈ ws, c ∉ x) → c ∉ Lib.join ws [32]
  | [], _ => by simp [Lib.join]
  | [x], h => by rw [Lib.join_one]; exact h x (List.mem_cons_self ..)
  | x :: z :: r, h => by
    rw [join_more, List.mem_append, List.mem_cons]
    rintro (h1 | h1 | h1)
    · exact h x (List.mem_cons_self ..) h1
    · exact hc h1
    · exact join_free hc (fun u hu => h u (List.mem_cons_of_mem _ hu)) h1
/-- A line's words have neither blanks nor newlines. -/
def Clean (ws : List ByteArray) : Prop := ws ≠ [] ∧ ∀ x ∈ ws, (32 : UInt8) ∉ x.data.toList ∧ (10 : UInt8) ∉ x.data.toList
def bodyL (ws : List ByteArray) : List UInt8 := Lib.join (ws.map (·.data.toList)) [32]
theorem toB_data (x : ByteArray) : toB x.data.toList = x := by
  unfold toB
  apply ByteArray.ext
  simp
theorem body_words {ws : List ByteArray} (h : Clean ws) : spL (toB (bodyL ws)) 32 = ws := by
  have e : spL (toB (bodyL ws)) 32 = (spl 32 (toB (bodyL ws)).data.toList).map toB := spL_spl (toB (bodyL ws)) 32
  rw [e, show (toB (bodyL ws)).data.toList = bodyL ws by simp [toB]]
  unfold bodyL
  rw [spl_join (by simpa using h.1) (fun x hx => by
    obtain ⟨z, hz, rfl⟩ := List.mem_map.1 hx
    exact (h.2 z hz).1), List.map_map]
  conv => rhs; rw [← List.map_id ws]
  exact List.map_congr_left fun x _ => toB_data x
/-- The lines of a text that is printed. -/
theorem spl_lines : ∀ {wss : List (List ByteArray)}, (∀ ws ∈ wss, Clean ws) → spl 10 (wss.flatMap lineL) = wss.map bodyL ++ [[]]
  | [], _ => rfl
  | ws :: r, h => by
    have hc := h ws (List.mem_cons_self ..)
    rw [List.flatMap_cons, show lineL ws = bodyL ws ++ [10] from rfl, List.append_assoc]
    show spl 10 (bodyL ws ++ 10 :: r.flatMap lineL) = _
    have hfree : (10 : UInt8) ∉ bodyL ws := join_free (by decide) (fun x hx => by
      obtain ⟨z, hz, rfl⟩ := List.mem_map.1 hx
      exact (hc.2 z hz).2)
    rw [spl_app _ hfree, spl_lines (fun u hu => h u (List.mem_cons_of_mem _ hu))]
    rfl
end Go.Proofs.YtjanojmgnpfjeaaGreatDoor
