/- Blocks of a stream: phasor.blocks as an iterator. -/
import Derived.Test.YtafnebfchhmgcaaGreatN22
import Derived.Test.YtafnebfchhmgcaaGreatN6
import Derived.Laws.CopyOwn
namespace Go.Proofs.YtafnebfchhmgcaaGreat
open Go Go.RowKit Go.Sort Go.Shelf
set_option linter.unusedSimpArgs false
set_option linter.unusedVariables false
attribute [local go_sem] cell_if frozen_if grow_cell
attribute [local go_sem] Oper.semAt_some
theorem blocks_any (A : Option Addr) (n c : Nat) (w : World) :
    Calls Tryz.prog 71 #[.slice A n c] w fun e w' => e = .returned (.func (.func 122) #[] #[.pointer (some ⟨w.heap.size, 0, none⟩)]) ∧ w.alloc (.cells #[.slice A n c] 52) = w' := by
  go_enter Tryz.func71, Tryz.ntmps71
  go_wp2
  go_ret
  exact ⟨rfl, rfl⟩
/-- What a round keeps: all below n₀; block g. -/
structure KpB (n₀ g : Nat) (W W' : World) : Prop where
  low : Below n₀ W W'
  sec : W'.heap[g]? = W.heap[g]?
theorem KpB.t {n₀ g : Nat} {A B C : World} (h : KpB n₀ g A B) (k : KpB n₀ g B C) : KpB n₀ g A C := ⟨h.low.trans k.low, k.sec.trans h.sec⟩
theorem KpB.b {n₀ g : Nat} {w : World} (hn : n₀ ≤ w.heap.size) (hg : g < w.heap.size) (W : World) (l : Nat) (o o' : Obj) (hl : w.heap.size ≤ l) (h : W.heap[l]? = some o) (h1 : o.isCells = false) (h2 : o.isWalk = false) : KpB n₀ g W (W.putObj l o') :=
  ⟨belowK_b hn W l o o' hl h h1 h2, World.putObj_heap_other (by omega)⟩
theorem wp_copy_own {P : Program} {w : World} {o : Oper} {a : Act} {K : Act → World → Prop} {Q : Exit → Act → World → Prop} (d s : Operand) (dT sT : TypeId)
    (ho : o.op = .call { callee := .builtin .copy, args := #[d, s], argTypes := #[dT, sT] }) (elem : TypeId) (hu : P.underlying dT = some (.slice elem)) (hsz : (P.info? elem).map (·.size) = some 1)
    (g off dLen dCap : Nat) (ad : Addr) (sLen sCap : Nat) (hd : a.eval d = .slice (some ⟨g, off, none⟩) dLen dCap) (hs : a.eval s = .slice (some ad) sLen sCap)
    (cur : Array Value) (t : TypeId) (hg : w.heap[g]? = some (.cells cur t (0, 0))) (cs : List Value) (hn : cs.length = Nat.min sLen dLen)
    (hsrc : ∀ j v, cs[j]? = some v → w.cell? (ad.add j) = some v) (hfit : off + cs.length ≤ cur.size) (h1 : ∀ v ∈ cs, v.oneCell' = true)
    (h : K (a.put o.dst (goInt cs.length)) (w.setRow g (cur.toList.take off ++ (cs ++ cur.toList.drop (off + cs.length))).toArray)) : o.wp P a w K Q := by
  have hrun := run_copy_row (P := P) w dT sT o.type elem g off dLen dCap ad sLen sCap cur t cs hu hsz hg hn hsrc hfit h1
  unfold Oper.wp
  simp [execOp, ho, resolve, invoke, builtin, hd, hs, hrun, Result.andThen]
  exact h
/-- The frames of a stream, one after the other. -/
structure Frames (fs : List (List Int)) : Prop where
  len : ∀ f ∈ fs, f.length = 16
  bytes : ∀ f ∈ fs, ∀ b ∈ f, 0 ≤ b ∧ b ≤ 255
theorem frames_len : ∀ {fs : List (List Int)}, (∀ f ∈ fs, f.length = 16) → fs.flatten.length = 16 * fs.length
  | [], _ => rfl
  | f :: r, h => by
    have ih := frames_len (fs := r) fun x hx => h x (List.mem_cons_of_mem _ hx)
    rw [List.flatten_cons, List.length_append, ih, h f List.mem_cons_self, List.length_cons]
    omega
theorem frames_drop : ∀ {fs : List (List Int)} {k : Nat}, (∀ f ∈ fs, f.length = 16) → fs.flatten.drop (16 * k) = (fs.drop k).flatten
  | [], k, _ => by simp
  | f :: r, 0, _ => by simp
  | f :: r, k + 1, h => by
    have ih := frames_drop (fs := r) (k := k) fun x hx => h x (List.mem_cons_of_mem _ hx)
    have hf := h f List.mem_cons_self
    rw [List.flatten_cons, List.drop_append, hf, List.drop_eq_nil_of_le (by rw [hf]; omega), List.nil_append, show 16 * (k + 1) - 16 = 16 * k by omega, ih]
    rfl
theorem frame_at {fs : List (List Int)} (h : ∀ f ∈ fs, f.length = 16) {k : Nat} (hk : k < fs.length) {j : Nat} (hj : j < 16) : fs.flatten[16 * k + j]? = (fs[k])[j]? := by
  rw [← List.getElem?_drop, frames_drop h, List.drop_eq_getElem_cons hk, List.flatten_cons, List.getElem?_append_left (by rw [h _ (List.getElem_mem hk)]; exact hj)]
theorem list16 {l : List Int} (h : l.length = 16) : ∃ x0 x1 x2 x3 x4 x5 x6 x7 x8 x9 x10 x11 x12 x13 x14 x15, l = [x0, x1, x2, x3, x4, x5, x6, x7, x8, x9, x10, x11, x12, x13, x14, x15] := by
  match l, h with
  | [x0, x1, x2, x3, x4, x5, x6, x7, x8, x9, x10, x11, x12, x13, x14, x15], _ => exact ⟨x0, x1, x2, x3, x4, x5, x6, x7, x8, x9, x10, x11, x12, x13, x14, x15, rfl⟩
/-- The block at an index. -/
def blV (fs : List (List Int)) (k : Fin fs.length) : Array Value := #[.int .i64 (k.1 : Int), .agg (frC fs[k])]
set_option maxRecDepth 100000 in
set_option maxHeartbeats 4000000 in
theorem bl_stops (fs : List (List Int)) (hF : Frames fs) (n g1 n₀ c0 : Nat) (A : Option Addr) (w : World) (hn : 3 ≤ n) (h0 : n₀ ≤ w.heap.size) (hm : fs.length ≤ 1024) (hc : 16 * fs.length ≤ c0) (hp : Blk w g1 52 #[.slice A (16 * fs.length) c0]) (hr : Reads w n₀ 1 A (16 * fs.length) (fs.flatten.map (.int .u8))) :
    SeqStopsK Fence.wide n Tryz.prog 122 #[.pointer (some ⟨g1, 0, none⟩)] (blV fs) (KpB n₀ g1) (fun xs => xs = fTo fs.length fs.length) (fun _ => True) 1025 w := fun L J Jx W hW hJ hJx hR hJ0 => by
  have b1 := hp.kept hW
  have l1 := b1.lt
  have hnW : n₀ ≤ W.heap.size := Nat.le_trans h0 hW.size
  have HRd := Lib.hid (hr.below (hW.mono h0))
  have HF := Lib.hid hF
  clear hp hW hr
  refine callsIn_of_wp Tryz.func122 rfl trivial ?_ rfl
  simp only [Tryz.ntmps122, List.size_toArray, List.length_cons, List.length_nil, Nat.reduceAdd, Nat.reduceSub, Array.replicate_succ, Array.replicate_zero, List.push_toArray, List.append_toArray, List.nil_append, List.cons_append]
  have c1 := b1.cell 0
  simp at c1
  gi_wp2
  gi_loopw [3, 4, 8] (fun s3 s4 i wr => ∃ k : Nat, k ≤ fs.length ∧ i = .int .i64 (k : Int) ∧ J (fTo fs.length k) wr ∧ KpB n₀ g1 W wr ∧ W.heap.size ≤ wr.heap.size) (fun _ _ i _ => fs.length - (intOf i).toNat)
  case atStart => exact ⟨0, Nat.zero_le _, rfl, hJ0, ⟨Below.refl _ _, rfl⟩, Nat.le_refl _⟩
  case round =>
    obtain ⟨k, hk, rfl, hJk, hkp, hsz⟩ := hrel
    have q1 : Blk wr g1 52 #[.slice A (16 * fs.length) c0] := hkp.sec.trans b1
    have c1 := q1.cell 0
    simp at c1
    by_cases hlt : k < fs.length
    · have HD : Hid (fTo fs.length (k + 1) = fTo fs.length k ++ [⟨k, hlt⟩]) := Lib.hid (fTo_succ hlt)
      have hkI : (k : Int) < (fs.length : Int) := by omega
      obtain ⟨bb, ob, rfl, hbb, hcc⟩ := (HRd.out.below hkp.low).2 (by omega)
      have lq1 := q1.lt
      have hw16 : IntKind.i64.wrap (16 * (k : Int)) = 16 * (k : Int) := by rw [IntKind.wrap_i64]; omega
      have h16a : 16 * k ≤ 16 * fs.length := by omega
      have h16b : 16 * k ≤ c0 := by omega
      have hne1 : g1 ≠ wr.heap.size := by omega
      gi_wp2
      refine wpIn_wide.2 ?_
      have HCc : Hid (∀ j u, (frC fs[k]).toList[j]? = some u → j < 16 ∧ wr.cell? ⟨bb, ob + (16 * k + j), none⟩ = some u) := Lib.hid (fun j u hu => by
        have hf : (fs[k]).length = 16 := HF.out.len _ (List.getElem_mem hlt)
        have hj : j < 16 := by
          have := (List.getElem?_eq_some_iff.1 hu).1
          unfold frC at this
          simpa [hf] using this
        refine ⟨hj, ?_⟩
        refine hcc (16 * k + j) u ?_
        rw [List.getElem?_map, frame_at HF.out.len hlt hj]
        unfold frC at hu
        simpa using hu)
      have hfs : (frC fs[k]).toList.length = 16 := by unfold frC; simpa using HF.out.len _ (List.getElem_mem hlt)
      have hone : ∀ v ∈ (frC fs[k]).toList, v.oneCell' = true := fun v hv => by
        unfold frC at hv
        obtain ⟨x, _, rfl⟩ := List.mem_map.1 (by simpa using hv)
        rfl
      have hbw : bb < wr.heap.size := Nat.lt_of_lt_of_le hbb (Nat.le_trans hnW hsz)
      refine wp_world ?_
      intro W1 hW1
      have hb1 : Below wr.heap.size wr W1 := by rw [hW1]; exact bl_
      have HZ1 := Lib.hid (show Blk W1 wr.heap.size 66 #[.int .u8 0, .int .u8 0, .int .u8 0, .int .u8 0, .int .u8 0, .int .u8 0, .int .u8 0, .int .u8 0, .int .u8 0, .int .u8 0, .int .u8 0, .int .u8 0, .int .u8 0, .int .u8 0, .int .u8 0, .int .u8 0] from by rw [hW1]; exact Blk.new _ _ _)
      have HQ1 := Lib.hid (q1.kept hb1)
      have hsw1 : W1.heap.size = wr.heap.size + 1 := by rw [hW1]; simp
      have HC1 : Hid (∀ j u, (frC fs[k]).toList[j]? = some u → W1.cell? ⟨bb, ob + (16 * k + j), none⟩ = some u) := Lib.hid (fun j u hu => (hb1.cell (p := ⟨bb, ob + (16 * k + j), none⟩) hbw).trans (HCc.out j u hu).2)
      have HB1 := Lib.hid hb1
      have c1 := HQ1.out.cell 0
      simp at c1
      have lQ := HQ1.out.lt
      have lZ := HZ1.out.lt
      have htn : ((16 * k : Nat) : Int).toNat = 16 * k := by omega
      have htn2 : (16 * (k : Int)).toNat = 16 * k := by omega
      have hk0 : (0 : Int) ≤ (k : Int) := by omega
      clear hW1 hb1
      have hmulc : (k : Int) * 16 = 16 * (k : Int) := by omega
      (refine wp_region_calm [wr.heap.size] [0, 1, 2, 3, 4] 1 (by kernel_rfl) rfl (by kernel_rfl) (by kernel_rfl) (by kernel_rfl) ?_; simp only [pickB, List.filterMap_cons, List.filterMap_nil, List.getElem?_toArray, List.getElem?_cons_zero, List.getElem?_cons_succ]; (repeat (first | ((first | (with_reducible refine quietL_plain rfl (fun K hK => ?_)) | (with_reducible refine quietL_want (by with_unfolding_all rfl) (fun K hK => ?_))); (apply Exists.intro; refine ⟨fun wx hx => ?_, ?_⟩; (· (have hcx := ifs_ex hx); simp [go_sem, *, ↓IntWalk.iteOmega] <;> (first | rfl | exact ⟨rfl, rfl⟩ | fail)); (simp only [Act.put, List.setIfInBounds_toArray, List.set_cons_zero, List.set_cons_succ]; refine hK _ ?_; clear hK K))) | ((with_reducible refine quietL_skip (by with_unfolding_all rfl) ?_); simp only [Act.put, List.setIfInBounds_toArray, List.set_cons_zero, List.set_cons_succ]))); refine quietL_nil ?_)
      refine anyB_one (i := 5) (by kernel_rfl) rfl rfl ?_
      intro w4 hb4 K hK
      have hZ4 : w4.heap[wr.heap.size]? = some (.cells #[.int .u8 0, .int .u8 0, .int .u8 0, .int .u8 0, .int .u8 0, .int .u8 0, .int .u8 0, .int .u8 0, .int .u8 0, .int .u8 0, .int .u8 0, .int .u8 0, .int .u8 0, .int .u8 0, .int .u8 0, .int .u8 0] 66 (0, 0)) := HZ1.out.kept hb4
      have hlA : ((#[.int .u8 0, .int .u8 0, .int .u8 0, .int .u8 0, .int .u8 0, .int .u8 0, .int .u8 0, .int .u8 0, .int .u8 0, .int .u8 0, .int .u8 0, .int .u8 0, .int .u8 0, .int .u8 0, .int .u8 0, .int .u8 0] : Array Value).toList.take 0 ++ ((frC fs[k]).toList ++ (#[.int .u8 0, .int .u8 0, .int .u8 0, .int .u8 0, .int .u8 0, .int .u8 0, .int .u8 0, .int .u8 0, .int .u8 0, .int .u8 0, .int .u8 0, .int .u8 0, .int .u8 0, .int .u8 0, .int .u8 0, .int .u8 0] : Array Value).toList.drop (0 + (frC fs[k]).toList.length))).toArray = frC fs[k] := by
        rw [hfs]
        simp
      refine wp_copy_own (.tmp 11) (.tmp 15) 52 52 rfl 5 Tryz.underlying52 rfl wr.heap.size 0 16 16 ⟨bb, ob + 16 * k, none⟩ _ _ rfl rfl #[.int .u8 0, .int .u8 0, .int .u8 0, .int .u8 0, .int .u8 0, .int .u8 0, .int .u8 0, .int .u8 0, .int .u8 0, .int .u8 0, .int .u8 0, .int .u8 0, .int .u8 0, .int .u8 0, .int .u8 0, .int .u8 0] 66 hZ4 (frC fs[k]).toList ?hn ?hsrc (by rw [hfs]; decide) hone ?_
      case hn => rw [hfs]; show 16 = min (16 * fs.length - 16 * k) 16; omega
      case hsrc =>
        intro j u hu
        rw [Addr.add_lit, Nat.add_assoc, hb4.cell (p := ⟨bb, ob + (16 * k + j), none⟩) (by show bb < W1.heap.size; omega)]
        exact HC1.out j u hu
      rw [hlA]
      have hb5 : Below wr.heap.size W1 (w4.setRow wr.heap.size (frC fs[k])) := below_setRow (hb4.mono (by omega)) (Nat.le_refl _) _
      have hB5 : Blk (w4.setRow wr.heap.size (frC fs[k])) wr.heap.size 66 (frC fs[k]) := setRow_heap _ _ _ _ _ _ hZ4
      refine hK _ _ ⟨Ex.of_top hb5 hsw1, ?_⟩
      clear hK K
      generalize w4.setRow wr.heap.size (frC fs[k]) = w5 at *
      refine anyB_end (by kernel_rfl) ?_
      intro w6 hb6
      simp only [Calm]
      have hB6 := hB5.kept hb6
      have hb06 : Below wr.heap.size wr w6 := (HB1.out.trans hb5).trans (hb6.mono (by have := hb5.size; omega))
      have hs6 := hb06.size
      have hJ6 := hJ _ wr w6 none hJk ⟨hb06.os, hb06.tape, hb06.output, hb06.size, fun k hk _ => hb06.block k hk⟩ (fun r e => by cases e)
      have hk6 : KpB n₀ g1 wr w6 := ⟨hb06.mono (by omega), hb06.block _ (by omega)⟩
      obtain ⟨fn, tmps, assign, body, hy, hR1⟩ := hR _ ⟨k, hlt⟩ _ hJ6 (by rw [fTo_len k hk]; omega)
      have hV : blV fs ⟨k, hlt⟩ = #[.int .i64 (k : Int), .agg (frC fs[k])] := rfl
      rw [hV] at hy
      have hz := hkp.t hk6
      obtain ⟨x0, x1, x2, x3, x4, x5, x6, x7, x8, x9, x10, x11, x12, x13, x14, x15, hx⟩ := list16 (HF.out.len _ (List.getElem_mem hlt))
      have hfc : frC fs[k] = #[.int .u8 x0, .int .u8 x1, .int .u8 x2, .int .u8 x3, .int .u8 x4, .int .u8 x5, .int .u8 x6, .int .u8 x7, .int .u8 x8, .int .u8 x9, .int .u8 x10, .int .u8 x11, .int .u8 x12, .int .u8 x13, .int .u8 x14, .int .u8 x15] := by rw [hx]; rfl
      rw [hfc] at hy hB6
      have cB := hB6.cell
      have lB := hB6.lt
      clear hkp hk6 hb4 hb5 hB5 hb6 hZ4 hlA hJ6 HCc HC1 hw16 htn htn2 hmulc hone HZ1 HQ1 hx hfs
      gi_wp2
      refine ⟨(fun _ => by omega), hR1.mono ?_⟩
      clear cB lB hB6
      rintro e W3 (⟨rfl, hJ3, hk3⟩ | ⟨rfl, hJx3⟩)
      · (gi_wp2; (try (refine ⟨fun _ h => (by cases h), ?_⟩; gi_wp2)); (try (refine ⟨fun _ h => (by cases h), ?_⟩; gi_wp2)))
        go_roundw
        case rel => exact ⟨k + 1, by omega, by go_num, by rw [HD.out]; exact hJ3, hz.t hk3, Nat.le_trans hsz (Nat.le_trans hs6 hk3.low.size)⟩
        case measure => simp [intOf]; omega
      · (gi_wp2; (try (refine ⟨fun _ h => (by cases h), ?_⟩; gi_wp2)); (try (refine ⟨fun _ h => (by cases h), ?_⟩; gi_wp2)))
        refine bodyPost_ret (results_none rfl _ _ _) rfl ?_
        exact ⟨⟨_, rfl⟩, .inr ⟨_, trivial, hJx3⟩⟩
    · obtain rfl : k = fs.length := by omega
      gi_wp2
      go_end0
      exact ⟨⟨_, rfl⟩, .inl ⟨_, rfl, hJk⟩⟩
end Go.Proofs.YtafnebfchhmgcaaGreat
