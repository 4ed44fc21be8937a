/- The law's fixed example. -/
import Derived.Test.YtafnebfchhmgcaaGreatN13
import Derived.Test.YtafnebfchhmgcaaGreatR5
namespace Go.Proofs.YtafnebfchhmgcaaGreat
open Go Go.RowKit Go.Sort Go.Shelf
set_option linter.unusedSimpArgs false
set_option linter.unusedVariables false
attribute [local go_sem] cell_if frozen_if grow_cell
set_option maxRecDepth 100000 in
set_option maxHeartbeats 2000000 in
theorem clampPair_any (w : World) : Calls Tryz.prog 6 #[] w fun e w' => e = .returned (.bool true) ∧ Below w.heap.size w w' := by
  go_enter Tryz.func6, Tryz.ntmps6
  go_upto_region 3 with fail
  refine wp_world ?_
  intro x1 hW
  have hL : Below w.heap.size w x1 := by rw [hW]; exact bl_
  have b1 : Blk x1 w.heap.size 115 #[.string ⟨#[97]⟩, .int .i64 20, .bool false, .bool false, .string ⟨#[98]⟩, .int .i64 30, .bool false, .bool false] := by rw [hW]; exact bk_
  have b2 : Blk x1 (w.heap.size + 1) 36 #[.slice (some ⟨w.heap.size, 0, none⟩) 2 2, .int .i64 10, .int .i64 40, .int .i64 9, .int .i64 2] := by rw [hW]; exact bk_
  have b3 : Blk x1 (w.heap.size + 1 + 1) 45 #[.int .i64 1, .int .i64 4] := by rw [hW]; exact bk_
  have hs1 : w.heap.size + 1 + 1 + 1 ≤ x1.heap.size := by rw [hW]; simp
  clear hW
  have cA := b2.cell
  have lA := b2.lt
  have hM : MsAt x1 x1.heap.size (some ⟨w.heap.size, 0, none⟩) 2 pairA.m := Reads.blk_at (pre := []) (post := []) b1 rfl rfl rfl |>.more (by omega)
  have hO : Reads x1 x1.heap.size 2 (some ⟨w.heap.size + 1 + 1, 0, none⟩) 1 (ods pairO) := Reads.blk_at (pre := []) (post := []) b3 rfl rfl rfl |>.more (by omega)
  have hF : FitA pairA := ⟨by decide, by decide⟩
  have HLg := Lib.hid (Log_any x1.heap.size x1.heap.size (some ⟨w.heap.size, 0, none⟩) (some ⟨w.heap.size + 1 + 1, 0, none⟩) 2 2 1 1 pairA pairO x1 hM (Nat.le_refl _) hF (Nat.le_refl _) hO (Nat.le_refl _) (by decide))
  rw [pair_e, pair_l] at HLg
  go_wp2_with fail
  refine HLg.out.mono ?_
  rintro e x2 ⟨v, vs, rfl, hown, _, hel, hb2⟩
  have hs2 := hb2.size
  obtain ⟨u, rfl⟩ : ∃ u, vs = [u] := by
    have h1 : vs.length = 1 := by simpa using hown.1
    exact List.length_eq_one_iff.1 h1
  obtain ⟨l1, hl1, hu⟩ := hel 0 u rfl
  obtain rfl : [24, 30] = l1 := by simpa using hl1
  obtain ⟨A2, c2, rfl, _, _, hrd⟩ := own_form hown
  obtain ⟨A3, c3, rfl, _, _, hrd3⟩ := own_form hu
  have HL2 := Lib.hid (hL.trans (hb2.mono (by omega)))
  have c2A := (b2.kept hb2).cell
  have l2A := (b2.kept hb2).lt
  have HWk := Lib.hid (Work_any x1.heap.size x1.heap.size (some ⟨w.heap.size, 0, none⟩) (some ⟨w.heap.size + 1 + 1, 0, none⟩) 2 2 1 1 pairA pairO x2 (hM.below hb2) hs2 hF (Nat.le_refl _) (hO.below hb2) hs2 (by decide))
  rw [pair_e, pair_w] at HWk
  have HRd := Lib.hid hrd
  have HRd3 := Lib.hid hrd3
  clear hown hel hu hrd hrd3 HLg cA lA
  go_wp2_with fail
  refine HWk.out.mono ?_
  rintro e x3 ⟨rfl, hb3⟩
  have hs3 := hb3.size
  obtain ⟨bl, ol, rfl, hbl, hcl⟩ := HRd.out.2 (by decide)
  have z0 : x3.cell? ⟨bl, ol, none⟩ = some (.slice A3 2 c3) := by
    rw [hb3.cell (p := ⟨bl, ol, none⟩) hbl]
    exact hcl 0 _ rfl
  have hbl3 : bl < x3.heap.size := by omega
  have HL3 := Lib.hid (HL2.out.trans (hb3.mono (by have := HL2.out.size; omega)))
  have HR3 : Hid (Reads x3 x3.heap.size 1 A3 2 (([1069547520, 1072693248] : List Nat).map (Value.float .f32))) := Lib.hid (by
    have h1 := (HRd3.out.below hb3).more hs3
    have h2 : smps [24, 30] = ([1069547520, 1072693248] : List Nat).map (Value.float .f32) := by
      unfold smps
      simp only [List.map_cons, List.map_nil, pair_s.2.1, pair_s.2.2]
    rw [h2] at h1
    exact h1)
  clear HRd HRd3 HWk hcl c2A l2A hb3
  go_wp2_with fail
  have hx24 : ∀ z ∈ ([1069547520, 1072693248] : List Nat), sampE z = 0 := by
    intro z hz
    simp at hz
    rcases hz with rfl | rfl
    · exact pair_x.2.1
    · exact pair_x.2.2
  have hlit : Reads (x3.alloc (.cells #[.float .f32 1069547520, .float .f32 1072693248] 49)) (x3.heap.size + 1) 1 (some ⟨x3.heap.size, 0, none⟩) 2 (([1069547520, 1072693248] : List Nat).map (Value.float .f32)) := by
    simpa using Reads.new (size := 1) x3 (([1069547520, 1072693248] : List Nat).map (Value.float .f32)).toArray 49 2 rfl
  refine (SameSamples_yes (x3.heap.size + 1) A3 (some ⟨x3.heap.size, 0, none⟩) 2 c3 2 _ _ ((HR3.out.below ((Below.refl _ _).alloc (Nat.le_refl _) _)).more (by omega)) hlit (by simp) (by decide) hx24).mono ?_
  rintro e x4 ⟨rfl, hb4⟩
  have hs4 := hb4.size
  simp at hs4
  have HL4 := Lib.hid (HL3.out.trans ((((Below.refl x3.heap.size x3).alloc (Nat.le_refl _) (.cells #[.float .f32 1069547520, .float .f32 1072693248] 49)).trans (hb4.mono (by simp))).mono (by have := HL3.out.size; omega)))
  clear hb4 hlit HR3 HL3 z0
  go_wp2_with fail
  have hrk : RecOk ⟨#[97]⟩ [1067450368, 1069547520] := ⟨by decide, by
    intro z hz
    simp at hz
    rcases hz with rfl | rfl
    · exact pair_x.1
    · exact pair_x.2.1, by decide, by decide⟩
  have hlit2 : Reads (x4.alloc (.cells #[.float .f32 1067450368, .float .f32 1069547520] 49)) (x4.heap.size + 1) 1 (some ⟨x4.heap.size, 0, none⟩) 2 (([1067450368, 1069547520] : List Nat).map (Value.float .f32)) := by
    simpa using Reads.new (size := 1) x4 (([1067450368, 1069547520] : List Nat).map (Value.float .f32)).toArray 49 2 rfl
  refine (Pack_any (x4.heap.size + 1) (some ⟨x4.heap.size, 0, none⟩) 2 2 ⟨#[97]⟩ [1067450368, 1069547520] _ hrk hlit2 (by simp)).mono ?_
  rintro e x5 ⟨g5, cap5, rfl, ho5, hb5⟩
  have hs5 := hb5.size
  simp at hs5
  unfold packV at ho5
  generalize hpk : packB (ByteArray.data ⟨#[97]⟩).toList [1067450368, 1069547520] = pk at *
  have hpn : pk.length ≤ 5000 := by rw [← hpk]; decide +kernel
  have HPk := Lib.hid hpk
  have HL5 := Lib.hid (HL4.out.trans ((((Below.refl x4.heap.size x4).alloc (Nat.le_refl _) (.cells #[.float .f32 1067450368, .float .f32 1069547520] 49)).trans (hb5.mono (by simp))).mono (by have := HL4.out.size; omega)))
  have hr5 := (Own.reads ho5).more (show g5 + 1 ≤ x5.heap.size from (Own.lt ho5).2)
  have HR5 := Lib.hid (hr5.alloc (Nat.le_refl _) (.cells #[] 5))
  clear hpk hb5 hlit2 HL4 ho5 hr5
  go_wp2_with (at_builtin; refine wpList_plain rfl fun K hK => ?_; refine wp_spread 52 5 1 1 elemU8 (.tmp 60) (.tmp 61) rfl x5.heap.size x5.heap.size rfl (Own.new x5 x5.heap.size 5 1 0 #[] (Nat.le_refl _) rfl (by unfold maxLen; decide)) (some ⟨g5, 0, none⟩) pk.length cap5 x5.heap.size (pk.map (.int .u8)) rfl HR5.out (fun v hv => by obtain ⟨x, _, rfl⟩ := List.mem_map.1 hv; rfl) (by unfold maxLen; omega) (by omega) (by simp) ?_)
  intro v' x6 hown hg hne
  have hb6 : Below x5.heap.size x5 x6 := (((Below.refl _ x5).alloc (Nat.le_refl _) (.cells #[] 5)).grown hg (by simp) (fun k e => by cases e; exact Nat.le_refl _))
  obtain ⟨A6, c6, rfl, hc6, _, hrd6⟩ := own_form hown
  have hs6 := hb6.size
  have HL6 := Lib.hid (HL5.out.trans (hb6.mono (by have := HL5.out.size; omega)))
  have HR6 := Lib.hid hrd6
  clear hown hg hne hb6 hrd6 HL5 HR5
  refine hK _ _ ?_
  clear hK K
  go_wp2_with fail
  refine (Unpack_any x6.heap.size A6 pk.length c6 ⟨#[97]⟩ [1067450368, 1069547520] x6 hrk (by rw [HPk.out]; exact HR6.out) (Nat.le_refl _) hc6).mono ?_
  rintro e x7 ⟨A7, c7, he, ho7, hb7⟩
  obtain rfl : e = .returned (.tuple #[.agg #[.string ⟨#[97]⟩, .slice A7 2 c7], .int .i64 0]) := he
  have hs7 := hb7.size
  have HL7 := Lib.hid (HL6.out.trans (hb7.mono HL6.out.size))
  obtain ⟨A8, c8, he8, _, _, hrd7⟩ := own_form (n := 2) ho7
  cases he8
  have HR7 := Lib.hid hrd7
  clear ho7 hb7 hrd7 HL6 HR6 HPk
  go_wp2_with fail
  have hx2 : ∀ z ∈ ([1067450368, 1069547520] : List Nat), sampE z = 0 := by
    intro z hz
    simp at hz
    rcases hz with rfl | rfl
    · exact pair_x.1
    · exact pair_x.2.1
  have hlit3 : Reads ((x7.alloc (.cells #[.string ⟨#[97]⟩, .slice A7 2 c7] 56)).alloc (.cells #[.float .f32 1067450368, .float .f32 1069547520] 49)) (x7.heap.size + 1 + 1) 1 (some ⟨x7.heap.size + 1, 0, none⟩) 2 (([1067450368, 1069547520] : List Nat).map (Value.float .f32)) := by
    simpa using Reads.new (size := 1) (x7.alloc (.cells #[.string ⟨#[97]⟩, .slice A7 2 c7] 56)) (([1067450368, 1069547520] : List Nat).map (Value.float .f32)).toArray 49 2 rfl
  refine (SameSamples_yes (x7.heap.size + 1 + 1) A7 (some ⟨x7.heap.size + 1, 0, none⟩) 2 c7 2 _ _ (((HR7.out.alloc (Nat.le_refl _) (.cells #[.string ⟨#[97]⟩, .slice A7 2 c7] 56)).alloc (by simp) (.cells #[.float .f32 1067450368, .float .f32 1069547520] 49)).more (by omega)) hlit3 (by simp) (by decide) hx2).mono ?_
  rintro e x8 ⟨rfl, hb8⟩
  have hL8 := HL7.out.trans (((((Below.refl x7.heap.size x7).alloc (Nat.le_refl _) (.cells #[.string ⟨#[97]⟩, .slice A7 2 c7] 56)).alloc (by simp) (.cells #[.float .f32 1067450368, .float .f32 1069547520] 49)).trans (hb8.mono (by simp; omega))).mono HL7.out.size)
  have HL8 := Lib.hid hL8
  clear hL8 hb8 hlit3 HR7 HL7
  go_wp2_with fail
  go_ret
  exact ⟨by first | rfl | (simp; done), HL8.out⟩
end Go.Proofs.YtafnebfchhmgcaaGreat
