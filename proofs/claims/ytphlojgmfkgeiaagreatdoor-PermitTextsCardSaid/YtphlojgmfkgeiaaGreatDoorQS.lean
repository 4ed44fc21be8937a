/- Reference: the parts of a string between the places of a byte. -/
import Derived.Test.YtphlojgmfkgeiaaGreatDoorEE
import Derived.Test.YtphlojgmfkgeiaaGreatDoorKh
import Derived.Test.YtphlojgmfkgeiaaGreatDoorKd
namespace Go.Proofs.YtphlojgmfkgeiaaGreatDoor
open Go.RowKit Go.Sort Go.Shelf
set_option linter.unusedSimpArgs false
set_option linter.unusedVariables false
attribute [local go_sem] cell_if frozen_if grow_cell
def lastB (ps : List ByteArray) : ByteArray := ps.getLast?.getD ⟨#[]⟩
def isByte (s : ByteArray) (c k : Nat) : Bool := (s.data[k]?.map UInt8.toNat) == some c
/-- The parts of the first k bytes. -/
def spTo (s : ByteArray) (c : Nat) : Nat → List ByteArray
  | 0 => [⟨#[]⟩]
  | k + 1 => if isByte s c k then spTo s c k ++ [⟨#[]⟩] else (spTo s c k).dropLast ++ [lastB (spTo s c k) ++ s.extract k (k + 1)]
def spL (s : ByteArray) (c : Nat) : List ByteArray := spTo s c s.size
theorem spTo_len (s : ByteArray) (c : Nat) : ∀ k, 0 < (spTo s c k).length ∧ (spTo s c k).length ≤ k + 1
  | 0 => ⟨Nat.zero_lt_one, Nat.le_refl _⟩
  | k + 1 => by
    have := spTo_len s c k
    unfold spTo
    split
    · rw [List.length_append]; simp; omega
    · rw [List.length_append, List.length_dropLast]; simp; omega
theorem lastB_snoc (l : List ByteArray) (x : ByteArray) : lastB (l ++ [x]) = x := by unfold lastB; simp
theorem spTo_last (s : ByteArray) (c : Nat) : ∀ k, k ≤ s.size → (lastB (spTo s c k)).size ≤ k
  | 0, _ => Nat.le_refl _
  | k + 1, h => by
    have := spTo_last s c k (by omega)
    unfold spTo
    split
    · rw [lastB_snoc]; exact Nat.zero_le _
    · rw [lastB_snoc, ByteArray.size_append, ByteArray.size_extract]; omega
theorem last_at {l : List ByteArray} (h : 0 < l.length) : l[l.length - 1]? = some (lastB l) := by
  unfold lastB
  rw [List.getLast?_eq_getElem?]
  cases e : l[l.length - 1]? with
  | some x => rfl
  | none => rw [List.getElem?_eq_none_iff] at e; omega
theorem set_last {l : List ByteArray} (h : 0 < l.length) (x : ByteArray) : l.set (l.length - 1) x = l.dropLast ++ [x] := by
  have hne : l ≠ [] := by intro h0; rw [h0] at h; exact absurd h (by decide)
  refine List.ext_getElem (by rw [List.length_set, List.length_append, List.length_dropLast]; simp; omega) fun i h1 h2 => ?_
  rw [List.length_set] at h1
  rw [List.getElem_set]
  split
  · rename_i h3
    rw [List.getElem_append_right (by rw [List.length_dropLast]; omega)]
    simp
  · rw [List.getElem_append_left (by rw [List.length_dropLast]; omega), List.getElem_dropLast]
def SplitRes (w : World) (ps : List ByteArray) (e : Ending) (w' : World) : Prop := ∃ g cap, e = .returned (.slice (some ⟨g, 0, none⟩) ps.length cap) ∧ Own w' w.heap.size 9 1 g ps.length cap (ps.map .string) ∧ Below w.heap.size w w'
theorem byte_eq {s : ByteArray} {c k : Nat} (hk : k < s.size) : (((s[k]).toNat : Int) == (c : Int)) = isByte s c k := by
  unfold isByte
  rw [Array.getElem?_eq_getElem (by simpa using hk)]
  rw [Bool.eq_iff_iff]
  simp
  constructor
  · intro h; exact_mod_cast h
  · intro h; exact_mod_cast h
set_option maxRecDepth 100000 in
set_option maxHeartbeats 4000000 in
theorem Split_any (s : ByteArray) (c : Nat) (w : World) (hs : s.size ≤ 100000) :
    Calls Tryz.prog 77 #[.string s, .int .u8 c] w (SplitRes w (spL s c)) := by
  have HLn := Lib.hid (fun k => spTo_len s c k)
  have HLa := Lib.hid (fun k h => spTo_last s c k h)
  have BL := Lib.hid (Own.new w w.heap.size 9 1 1 #[.string ⟨#[]⟩] (Nat.le_refl _) rfl (by unfold maxLen; decide))
  go_enter Tryz.func77, Tryz.ntmps77
  go_wp2_with fail
  go_loopw [5, 6] (fun v i W => ∃ (k : Nat) (g cap n : Nat), i = .int .i64 k ∧ v = .slice (some ⟨g, 0, none⟩) n cap ∧ k ≤ s.size ∧ Hid (n = (spTo s c k).length) ∧ Own W w.heap.size 9 1 g n cap ((spTo s c k).map .string) ∧ Below w.heap.size w W) (fun _ i _ => s.size - (intOf i).toNat)
  case atStart => exact ⟨0, w.heap.size, 1, 1, rfl, rfl, by omega, Lib.hid rfl, BL.out, bl_⟩
  case round =>
    clear BL
    obtain ⟨k, g, cap, n, rfl, rfl, hk, hn, hO, hb⟩ := hrel
    have hsr := hb.size
    have HO := Lib.hid hO
    have HB := Lib.hid hb
    have hn2 : 0 < n ∧ n ≤ k + 1 := by rw [hn.out]; exact HLn.out k
    clear hO
    by_cases hlt : k < s.size
    · have hbe := byte_eq (c := c) hlt
      cases hq : isByte s c k with
      | true =>
        as_aux_lemma =>
          rw [hq] at hbe
          have HS : Hid (spTo s c (k + 1) = spTo s c k ++ [⟨#[]⟩]) := by show _ = _; rw [spTo, if_pos hq]
          clear hq
          go_wp2_with (at_builtin; refine wpList_appB 56 9 1 16 elemStr rfl (.tmp 19) (.tmp 20) rfl w.heap.size _ n _ rfl (World.ownsRow.alloc HO.out _) wr.heap.size 1 #[.string ⟨#[]⟩] rfl (Blk.new _ _ _) rfl ?h1 (by decide) ?h3 ?h4 ?h5 ?_)
          case h1 => rfl
          case h3 => unfold maxLen; omega
          case h4 => omega
          case h5 => simp; omega
          intro g' cap' w7 hown7 hg7 hat7
          have hg6 : wr.grownBy w7 _ := World.grownBy_trans_alloc hg7
          have HO7 := Lib.hid hown7
          have HB7 := Lib.hid (HB.out.grown hg6 hsr (fun k e => (World.ownsRow.lt HO.out k e).1))
          clear hown7 hg7 hg6 hat7 hb
          go_wp2
          go_roundw
          case rel => exact ⟨k + 1, g', cap', n + 1, by go_num, rfl, by omega, (by show _ = _; rw [HS.out, hn.out]; simp), (by rw [HS.out, List.map_append]; exact HO7.out), HB7.out⟩
          case measure => simp [intOf]; omega
      | false =>
        as_aux_lemma =>
          rw [hq] at hbe
          have HS : Hid (spTo s c (k + 1) = (spTo s c k).dropLast ++ [lastB (spTo s c k) ++ s.extract k (k + 1)]) := by show _ = _; rw [spTo, hq]; rfl
          have hla := HLa.out k hk
          have hlv := own_live HO.out (n - 1) (by omega)
          have hcv : wr.cell? ⟨g, n - 1, none⟩ = some (.string (lastB (spTo s c k))) := by
            rw [hlv.1, List.getElem?_map, hn.out, last_at (by rw [← hn.out]; exact hn2.1)]
            rfl
          obtain ⟨_, _, hfv⟩ := hlv
          have hgl := HO.out.lt.2
          have hrow : ((spTo s c k).map Value.string).set (n - 1) (.string (lastB (spTo s c k) ++ s.extract k (k + 1))) = (spTo s c (k + 1)).map Value.string := by
            rw [HS.out, ← set_last (by rw [← hn.out]; exact hn2.1), ← hn.out, List.map_set]
          have HN := Lib.hid (fun W (hW : Below wr.heap.size wr W) => (show Own (W.setCell ⟨g, n - 1, none⟩ (.string (lastB (spTo s c k) ++ s.extract k (k + 1)))) w.heap.size 9 1 g n cap ((spTo s c (k + 1)).map .string) from by
            have h := (World.ownsRow.stored (own_kept HO.out hW) (n - 1) (.string (lastB (spTo s c k) ++ s.extract k (k + 1)))).1
            rwa [hrow] at h))
          have hg0 := HO.out.lt.1
          have HNl : Hid (n = (spTo s c (k + 1)).length) := by show _ = _; rw [HS.out, hn.out, List.length_append, List.length_dropLast]; have := hn2.1; rw [hn.out] at this; simp; omega
          generalize lastB (spTo s c k) = x at *
          have hsz : ¬ (9223372036854775807 : Nat) < x.size + (s.extract k (k + 1)).size := by rw [ByteArray.size_extract]; omega
          obtain ⟨m, rfl⟩ : ∃ m, n = m + 1 := ⟨n - 1, by omega⟩
          clear hrow hq
          simp only [Nat.add_sub_cancel] at hcv hfv HN
          have hwr : IntKind.i64.wrap ((m : Int) + 1 - 1) = (m : Int) := by rw [IntKind.wrap_i64]; omega
          have hwr3 : IntKind.i64.wrap (m : Int) = (m : Int) := by rw [IntKind.wrap_i64]; omega
          have hk1 : k + 1 ≤ s.size := hlt
          have hwr2 : IntKind.i64.wrap ((k : Int) + 1) = (k : Int) + 1 := by rw [IntKind.wrap_i64]; omega
          go_wp2_with fail
          (refine wp_region_calm [g] [0, 1, 2, 3, 4, 5, 6, 7, 8, 10, 11, 12, 13, 14] 4 (by kernel_rfl) rfl (by kernel_rfl) (by kernel_rfl) (by kernel_rfl) ?_; simp only [pickB, List.filterMap_cons, List.filterMap_nil, List.getElem?_toArray, List.getElem?_cons_zero, List.getElem?_cons_succ]; (repeat (first | ((first | (with_reducible refine quietL_plain rfl (fun K hK => ?_)) | (with_reducible refine quietL_want (by with_unfolding_all rfl) (fun K hK => ?_))); (apply Exists.intro; refine ⟨fun wx hx => ?_, ?_⟩; (· (have hcx := ifs_ex hx); simp [go_sem, *, ↓IntWalk.iteOmega] <;> (first | rfl | exact ⟨rfl, rfl⟩ | fail)); (simp only [Act.put, List.setIfInBounds_toArray, List.set_cons_zero, List.set_cons_succ]; refine hK _ ?_; clear hK K))) | ((with_reducible refine quietL_skip (by with_unfolding_all rfl) ?_); simp only [Act.put, List.setIfInBounds_toArray, List.set_cons_zero, List.set_cons_succ]))); refine quietL_nil ?_)
          refine anyB_one (i := 9) (by kernel_rfl) rfl rfl ?_
          intro w1 hb1 K1 hK1
          have hs1 := hb1.size
          have c1 := (hb1.cell (p := ⟨g, m, none⟩) hgl).trans hcv
          have l1 : g < w1.heap.size := by omega
          go_wp2
          refine ⟨xs_, ?_⟩
          refine anyB_one (i := 15) (by kernel_rfl) rfl rfl ?_
          intro w2 hb2 K2 hK2
          have hs2 := hb2.size
          go_wp2
          refine ⟨xs_, ?_⟩
          refine anyB_one (i := 16) (by kernel_rfl) rfl rfl ?_
          intro w2' hb2' K3 hK3
          have hs2' := hb2'.size
          go_wp2
          refine ⟨xs_, ?_⟩
          refine anyB_one (i := 17) (by kernel_rfl) rfl rfl ?_
          intro w3 hb3' K hK
          have hb3 := below_trans hb1 (below_trans hb2 (below_trans hb2' hb3'))
          have hs3 := hb3.size
          have c3 := (hb3.cell (p := ⟨g, m, none⟩) hgl).trans hcv
          have f3 := (hb3.frozen (p := ⟨g, m, none⟩) hgl).trans hfv
          have l3 : g < w3.heap.size := by omega
          have HN3 := Lib.hid (HN.out w3 hb3)
          have HB3 := Lib.hid ((HB.out.trans (hb3.mono hsr)).setCell (p := ⟨g, m, none⟩) hg0 (.string (x ++ s.extract k (k + 1))))
          go_wp2
          refine ⟨xs_, ?_⟩
          refine anyB_end (by kernel_rfl) ?_
          intro w4 hb4
          simp only [Calm]
          have HN4 := Lib.hid (own_kept HN3.out hb4)
          have HB4 := Lib.hid (HB3.out.trans (hb4.mono HB3.out.size))
          clear hb1 hb2 hb2' hb3' hb3 hb4 hb c1 l1 c3 f3 l3 hcv hfv
          go_wp2_with fail
          go_roundw
          case rel => exact ⟨k + 1, g, cap, m + 1, by go_num, rfl, by omega, HNl, HN4.out, HB4.out⟩
          case measure => simp [intOf]; omega
    · obtain rfl : k = s.size := by omega
      as_aux_lemma =>
        go_wp2_with fail
        go_ret
        have e := hn.out
        subst e
        exact ⟨g, cap, rfl, HO.out, HB.out⟩
end Go.Proofs.YtphlojgmfkgeiaaGreatDoor
