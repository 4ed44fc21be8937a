/- Deliveries: none are sorted. -/
import Derived.Test.YtafnebfchhmgcaaGreatV19
import Derived.WalkMore
namespace Go.Proofs.YtafnebfchhmgcaaGreat
open Go Go.RowKit Go.Sort Go.Shelf
set_option linter.unusedSimpArgs false
set_option linter.unusedVariables false
attribute [local go_sem] cell_if frozen_if grow_cell
set_option maxRecDepth 100000 in
theorem blen64_zero (w : World) : Calls Tryz.prog 198 #[.int .u64 0] w fun e w' => e = .returned (.int .i64 0) ∧ w = w' := by
  have h8 : Lib.len8 0 = 0 := by decide
  go_enter Tryz.func198, Tryz.ntmps198
  go_wp2_with fail
  go_ret
  exact ⟨rfl, rfl⟩
set_option maxRecDepth 100000 in
theorem blen_zero (w : World) : Calls Tryz.prog 167 #[.int .u64 0] w fun e w' => e = .returned (.int .i64 0) ∧ w = w' := by
  go_enter Tryz.func167, Tryz.ntmps167
  go_wp2_with fail
  refine (blen64_zero _).mono ?_
  rintro e w1 ⟨rfl, rfl⟩
  go_wp2_with fail
  go_ret
  exact ⟨rfl, rfl⟩
set_option maxRecDepth 100000 in
theorem inso_nil (g : Value) (w : World) : Calls Tryz.prog 200 #[.slice none 0 0, .int .i64 0, .int .i64 0, g] w fun e w' => (∃ v, e = .returned v) ∧ w = w' := by
  go_enter Tryz.func200, Tryz.ntmps200
  go_wp2_with fail
  go_loopw [8] (fun s8 wr => s8 = .int .i64 1 ∧ w = wr) (fun _ _ => 0)
  case atStart => exact ⟨rfl, rfl⟩
  case round =>
    obtain ⟨rfl, rfl⟩ := hrel
    go_wp2_with fail
    go_end0
    exact ⟨⟨_, rfl⟩, rfl⟩
theorem vals_any (w : World) : Calls Tryz.prog 110 #[.slice none 0 0] w fun e w' => e = .returned (.func (.func 156) #[] #[.pointer (some ⟨w.heap.size, 0, none⟩)]) ∧ w.alloc (.cells #[.slice none 0 0] 174) = w' := by
  go_enter Tryz.func110, Tryz.ntmps110
  go_wp2
  go_ret
  exact ⟨rfl, rfl⟩
set_option maxRecDepth 100000 in
theorem pdq_nil (g : Value) (w : World) : Calls Tryz.prog 180 #[.slice none 0 0, .int .i64 0, .int .i64 0, .int .i64 0, g] w fun e w' => (∃ v, e = .returned v) ∧ w = w' := by
  go_enter Tryz.func180, Tryz.ntmps180
  go_wp2_with fail
  go_loopw [1, 2, 3, 10, 11] (fun s1 s2 s3 s10 s11 wr => s1 = .int .i64 0 ∧ s2 = .int .i64 0 ∧ s3 = .int .i64 0 ∧ s10 = .bool true ∧ s11 = .bool true ∧ w = wr) (fun _ _ _ _ _ _ => 0)
  case atStart => exact ⟨rfl, rfl, rfl, rfl, rfl, rfl⟩
  case round =>
    obtain ⟨rfl, rfl, rfl, rfl, rfl, rfl⟩ := hrel
    go_wp2_with fail
    refine (inso_nil _ _).mono ?_
    rintro e w1 ⟨⟨v, rfl⟩, rfl⟩
    go_wp2_with fail
    refine bodyPost_ret (results_none rfl _ _ _) rfl ?_
    exact ⟨⟨_, rfl⟩, rfl⟩
set_option maxRecDepth 100000 in
theorem sortf_nil (g : Value) (w : World) : Calls Tryz.prog 155 #[.slice none 0 0, g] w fun e w' => (∃ v, e = .returned v) ∧ w = w' := by
  go_enter Tryz.func155, Tryz.ntmps155
  go_wp2_with fail
  refine (blen_zero _).mono ?_
  rintro e w1 ⟨rfl, rfl⟩
  go_wp2_with fail
  refine (pdq_nil _ _).mono ?_
  rintro e w1 ⟨⟨v, rfl⟩, rfl⟩
  go_wp2_with fail
  go_end0
  exact ⟨⟨_, rfl⟩, rfl⟩
/-- Nothing is handed out. -/
theorem vals_seq (n g : Nat) (w : World) (hb : Blk w g 174 #[.slice none 0 0]) :
    SeqRow Fence.wide n Tryz.prog 156 #[.pointer (some ⟨g, 0, none⟩)] (fun _ : Empty => #[undef]) (fun _ _ => False) (fun _ _ => True) (fun xs => xs = []) (fun _ => False) w := fun l J Jx W hW hsz hJ hJx hR hJ0 => by
  have b1 := hb.kept hW
  have HJ0 := Lib.hid hJ0
  clear hJ hJx hR hJ0 hb
  refine callsIn_of_wp Tryz.func156 rfl trivial ?_ rfl
  simp only [Tryz.ntmps156, List.size_toArray, List.length_cons, List.length_nil, Nat.reduceAdd, Nat.reduceSub, Array.replicate_succ, Array.replicate_zero, List.push_toArray, List.append_toArray, List.nil_append, List.cons_append]
  have c1 := b1.cell 0
  simp at c1
  refine wpIn_wide.2 ?_
  go_wp2_with fail
  go_loopw [7] (fun s7 wr => s7 = .int .i64 0 ∧ W = wr) (fun _ _ => 0)
  case atStart => exact ⟨rfl, rfl⟩
  case round =>
    obtain ⟨rfl, rfl⟩ := hrel
    go_wp2_with fail
    go_end0
    exact ⟨⟨_, rfl⟩, .inl ⟨[], rfl, HJ0.out⟩⟩
set_option maxRecDepth 100000 in
set_option maxHeartbeats 4000000 in
theorem appseq_nil (bx : Nat) (w : World) (hb : Blk w bx 174 #[.slice none 0 0]) : Calls Tryz.prog 179 #[.slice none 0 0, .func (.func 156) #[] #[.pointer (some ⟨bx, 0, none⟩)]] w fun e w' => e = .returned (.slice none 0 0) ∧ Below w.heap.size w w' := by
  refine (callsIn_wide (n := 9)).1 ?_
  refine callsIn_of_wp_marks Tryz.func179 rfl trivial ?_ rfl
  refine wpIn_wide.2 ?_
  simp only [Tryz.ntmps179, List.size_toArray, List.length_cons, List.length_nil, Nat.reduceAdd, Nat.reduceSub, Array.replicate_succ, Array.replicate_zero, List.push_toArray, List.append_toArray, List.nil_append, List.cons_append]
  go_wp2_with fail
  refine wp_world ?_
  intro wb hwb
  have hlow : Below w.heap.size w wb := by rw [hwb]; exact bl_
  have hbx : Blk wb bx 174 #[.slice none 0 0] := hb.kept hlow
  have hb2 : Blk wb w.heap.size 174 #[.slice none 0 0] := by rw [hwb]; exact Blk.new _ _ _
  clear hwb hb
  refine (wpIn_wide (n := 9)).1 ?_
  change Code.wpIn _ _ _ (Code.rangeFunc _ _ _ _) _ ?act _
  refine range_row rfl (by omega) (gf := 156) (lb := #[.pointer (some ⟨bx, 0, none⟩)]) rfl trivial (enters_of Tryz.func156 (by kernel_rfl) rfl)
    (vals_seq 8 bx wb hbx) (fun _ _ => trivial) (fun _ _ _ => trivial) (Below.refl _ _) (fun _ => rfl) (fun _ _ _ _ _ h _ _ => h)
    (fun _ W => Blk W w.heap.size 174 #[.slice none 0 0] ∧ Below w.heap.size w W) (fun _ _ _ => False) ?own (fun _ _ _ _ _ h _ _ => h) ⟨hb2, hlow⟩
    (fun _ => { (?act : Act) with tmps := (?act : Act).tmps }) ?assign ?body ?done ?stop
  case own =>
    rintro pre U V row ⟨h1, h2⟩ hg hr
    have := h1.lt
    refine ⟨(hg.block _ h1.lt (fun e => (no_blk (hr _ e.symm).2) _ _ h1)).trans h1, h2.grown hg (by have := h2.size; omega) (fun j hj => by have := (hr j hj).1; have := hlow.size; omega)⟩
  case assign => exact fun _ x => x.elim
  case body => exact fun _ _ _ _ _ h => h.elim
  case stop => exact fun _ _ _ _ _ h => h.elim
  case done =>
    rintro D xs W hD _ ⟨h1, h2⟩ hK
    have cB := h1.cell 0
    have lB := h1.lt
    simp at cB
    have HK := Lib.hid hK
    have HD := Lib.hid hD
    have HL := Lib.hid h2
    clear hK hD h1 h2
    go_wp2_with fail
    refine leaves_marks wb.heap.size [D] W (by simp) (fun E hE => by simp at hE; subst hE; exact HK.out) (fun E hE => by simp at hE; subst hE; exact HD.out) fun w' hw' hkk hs => ?_
    exact ⟨_, results_tmp rfl _ _ _, rfl, HL.out.trans (hw'.mono hlow.size)⟩
set_option maxRecDepth 100000 in
theorem collect_nil (bx : Nat) (w : World) (hb : Blk w bx 174 #[.slice none 0 0]) : Calls Tryz.prog 154 #[.func (.func 156) #[] #[.pointer (some ⟨bx, 0, none⟩)]] w fun e w' => e = .returned (.slice none 0 0) ∧ Below w.heap.size w w' := by
  have H := Lib.hid (appseq_nil bx w hb)
  go_enter Tryz.func154, Tryz.ntmps154
  go_wp2_with fail
  refine H.out.mono ?_
  rintro e w1 ⟨rfl, hb1⟩
  go_wp2_with fail
  go_ret
  exact ⟨rfl, hb1⟩
set_option maxRecDepth 100000 in
theorem sortedf_nil (bx : Nat) (g : Value) (w : World) (hb : Blk w bx 174 #[.slice none 0 0]) : Calls Tryz.prog 109 #[.func (.func 156) #[] #[.pointer (some ⟨bx, 0, none⟩)], g] w fun e w' => e = .returned (.slice none 0 0) ∧ Below w.heap.size w w' := by
  have H := Lib.hid (collect_nil bx w hb)
  go_enter Tryz.func109, Tryz.ntmps109
  go_wp2_with fail
  refine H.out.mono ?_
  rintro e w1 ⟨rfl, hb1⟩
  have HB := Lib.hid hb1
  clear hb1
  go_wp2_with fail
  refine (sortf_nil _ _).mono ?_
  rintro e w2 ⟨⟨v, rfl⟩, rfl⟩
  go_wp2_with fail
  go_ret
  exact ⟨rfl, HB.out⟩
end Go.Proofs.YtafnebfchhmgcaaGreat
