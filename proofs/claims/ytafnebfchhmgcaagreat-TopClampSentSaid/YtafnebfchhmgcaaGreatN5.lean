/- Pack of a record. -/
import Derived.Lib.AppendStr
import Derived.Lib.SlBytesConst
import Derived.Laws.Externs
import Derived.Test.YtafnebfchhmgcaaGreatN4
namespace Go.Proofs.YtafnebfchhmgcaaGreat
open Go Go.RowKit Go.Sort Go.Shelf
set_option linter.unusedSimpArgs false
set_option linter.unusedVariables false
attribute [local go_sem] cell_if frozen_if grow_cell
theorem run_f32bits (y : Nat) (W : World) : (callFunc 59 #[.float .f32 y]).run Tryz.prog W = .ok (.value (.int .u32 (y : Int))) W := by
  rw [run_callFunc_extern (e := Extern.MathFloatBits.float32bits) Tryz.func59 rfl rfl (by kernel_rfl) (by kernel_rfl)]
  rfl
theorem zero_eq {x : Nat} (hx : x < 2147483648) (h : (FloatKind.f32.format.order x 0 == some .eq) = true) : x = 0 := by
  have e0 : Ieee.single.read 0 = .number false 0 (-149) := by decide +kernel
  have h' : ((Ieee.single.read x).order (Ieee.single.read 0) == some .eq) = true := h
  rw [e0] at h'
  clear h
  have e1 : Ieee.single.binade = 8388608 := rfl
  have e2 : Ieee.single.infRung = 2139095040 := rfl
  have e3 : Ieee.single.leastPlace = -149 := rfl
  have e4 : Ieee.single.signWeight = 2147483648 := rfl
  have hrd : Ieee.single.read x = (if x % Ieee.single.signWeight < Ieee.single.binade then .number (x / Ieee.single.signWeight % 2 == 1) (x % Ieee.single.signWeight) Ieee.single.leastPlace
    else if x % Ieee.single.signWeight < Ieee.single.infRung then .number (x / Ieee.single.signWeight % 2 == 1) (Ieee.single.binade + x % Ieee.single.signWeight % Ieee.single.binade) (Ieee.single.leastPlace + (x % Ieee.single.signWeight / Ieee.single.binade - 1 : Nat))
    else if x % Ieee.single.signWeight = Ieee.single.infRung then .infinity (x / Ieee.single.signWeight % 2 == 1) else .nan (x / Ieee.single.signWeight % 2 == 1) (x % Ieee.single.signWeight - Ieee.single.infRung)) := rfl
  have z0 : vnum false 0 (-149) = 0 := by decide +kernel
  rw [e1, e2, e3, e4, Nat.mod_eq_of_lt hx] at hrd
  generalize (x / 2147483648 % 2 == 1) = s at *
  split at hrd
  · rw [hrd, order_val (by omega) (by omega), cmp_eq, z0, decide_eq_true_eq] at h'
    have h1 := vnum_abs s x (-149)
    rw [h'] at h1
    have h2 : 0 < 2 ^ ((-149 : Int) + 1400).toNat := Nat.two_pow_pos _
    rcases Nat.mul_eq_zero.1 h1.symm with h3 | h3
    · exact h3
    · omega
  · split at hrd
    · rw [hrd, order_val (by omega) (by omega), cmp_eq, z0, decide_eq_true_eq] at h'
      have h1 := vnum_abs s (8388608 + x % 8388608) (-149 + ((x / 8388608 - 1 : Nat) : Int))
      rw [h'] at h1
      have h2 : 0 < 2 ^ ((-149 + ((x / 8388608 - 1 : Nat) : Int)) + 1400).toNat := Nat.two_pow_pos _
      rcases Nat.mul_eq_zero.1 h1.symm with h3 | h3 <;> omega
    · split at hrd
      · rw [hrd] at h'
        cases s <;> cases h'
      · rw [hrd] at h'
        cases h'
/-- append onto a row without room, of which only the cells are known. -/
theorem wpList_app_full {P : Program} {ops : Array Oper} {rest : List Oper} {o : Oper} {a : Act} {Q : Exit → Act → World → Prop} {w : World} (t e size bytes : Nat) (E : Elem P t e size bytes) (hgd : o.guard = none) (s x : Operand)
    (ho : o.op = .call { callee := .builtin .append, args := #[s, x], argTypes := #[t, t] }) (b : Addr) (n : Nat) (xs : List Value) (hs : a.eval s = .slice (some b) n n) (hxl : xs.length = n * size) (holds : ∀ j u, xs[j]? = some u → w.cell? (b.add j) = some u)
    (ad : Addr) (m c : Nat) (news : List Value) (hx : a.eval x = .slice (some ad) m c) (hnews : ∀ j u, news[j]? = some u → w.cell? (ad.add j) = some u) (hl : news.length = m * size) (hm : 0 < m) (h63 : n + m ≤ maxLen) (hbytes : (n + m) * bytes ≤ 140737488355328) 
    (h : ∀ g cap w', Own w' g e size g (n + m) cap (xs ++ news) → Below w.heap.size w w' → w.heap.size = g → w'.heap.size = g + 1 → wpList P ops Q rest (a.put o.dst (.slice (some ⟨g, 0, none⟩) (n + m) cap)) w') : wpList P ops Q (o :: rest) a w :=
  wpList_plain hgd fun _ hK => by
    obtain ⟨ht, ⟨i, z, hi, hz, rfl, rfl, hzs⟩, hp⟩ := E
    have h9 : n + m ≤ 9223372036854775807 := by simp only [maxLen] at h63; omega
    have hr := run_append_grow (P := P) w t o.type e i z ht hi hz b n n xs hxl holds ad m c news hl hnews (by omega) (by omega) (growslice_fits (by omega) hbytes)
    have hge := grownCap_ge w (n + m) n e
    have hcm : grownCap w (n + m) n e ≤ maxLen := grownCap_le_maxLen w (n + m) n e h63
    have hlen : (xs ++ news).length = (n + m) * i.size := by rw [List.length_append, hxl, hl, Nat.add_mul]
    unfold Oper.wp execOp
    simp only [ho, resolve, invoke, builtin, Sem.run_bind, Sem.run_pure, Result.andThen_ok, List.map_toArray, List.map_cons, List.map_nil, hs, hx, hr]
    refine hK _ _ (h _ _ _ ⟨hlen, .inr ⟨w.heap.size, _, _, rfl, Nat.le_refl _, heap_alloc_new w.drew _, hge, hcm, ?_, ?_⟩⟩ ((Below.refl _ _).drew.alloc (by simp) _) rfl (by simp))
    · simp only [Array.size_append, List.size_toArray, size_zeroCells, hzs, hxl, hl, ← Nat.add_mul]
      congr 1
      omega
    · simp only [Array.toList_append, List.append_assoc]
      rw [← List.append_assoc, ← hlen]
      exact List.take_left
theorem wp_app_str {P : Program} {o : Oper} {a : Act} {K : Act → World → Prop} {Q : Exit → Act → World → Prop} {w : World} (sl x : Operand) (t u : TypeId)
    (ho : o.op = .call { callee := .builtin .append, args := #[sl, x], argTypes := #[t, u] }) (base e : Nat) (ht : P.underlying t = some (.slice e)) (hu : P.underlying u = some .string) (hi : (P.info? e).map (fun i => (i.zero, i.size, i.bytes)) = some (some (.int .u8 0), 1, 1))
    (v : Value) (n : Nat) (xs : List Value) (hs : a.eval sl = v) (hown : w.ownsRow base e 1 v n xs) (s : ByteArray) (hx : a.eval x = .string s) (h0 : 0 < n) (h63 : n + s.size ≤ 1000000) (hbase : base ≤ w.heap.size)
    (h : ∀ g cap w', Own w' base e 1 g (n + s.size) cap (xs ++ Lib.strCells s) → w.grownBy w' v.ownBlock → K (a.put o.dst (.slice (some ⟨g, 0, none⟩) (n + s.size) cap)) w') : o.wp P a w K Q := by
  obtain ⟨i, h1, h2, h3, h4⟩ := info_parts hi
  obtain ⟨v', w', hr, h5, h6, h7⟩ := Lib.run_append_own_string (P := P) w base t u o.type e i ht hu h1 h2 h3 h4 v n xs hown s (by unfold maxLen; omega) (by omega) hbase
  unfold Oper.wp execOp
  simp only [ho, resolve, invoke, builtin, Sem.run_bind, Sem.run_pure, Result.andThen_ok, List.map_toArray, List.map_cons, List.map_nil, hs, hx, hr]
  rcases h5.2 with ⟨rfl, hn⟩ | ⟨g, cap, cur, rfl, _⟩
  · omega
  · exact h g cap w' h5 h6
theorem Ex.of_top {g : Nat} {w w' : World} (h : Below g w w') (hs : w.heap.size = g + 1) : Ex [g] w w' :=
  ⟨h.os, h.tape, h.output, h.size, fun k hk hn => h.block k (by simp at hn; omega)⟩
theorem own_base {w : World} {b b' e size g l cap : Nat} {xs : List Value} (h : Own w b e size g l cap xs) (hb : b' ≤ b) : Own w b' e size g l cap xs := by
  refine ⟨h.1, ?_⟩
  rcases h.2 with h1 | ⟨g', cap', cur, e1, h2, h3⟩
  · exact .inl h1
  · exact .inr ⟨g', cap', cur, e1, Nat.le_trans hb h2, h3⟩
theorem cell_mark (w : World) (C : Array Value) (t lo hi : Nat) (o : Obj) : ∀ j u, C.toList[j]? = some u → ((w.alloc (.cells C t (lo, hi))).alloc o).cell? ((⟨w.heap.size, 0, none⟩ : Addr).add j) = some u := by
  intro j u hu
  rw [Addr.add_lit, Nat.zero_add, World.cell?_alloc_lt _ _ _ (by simp), World.cell?_alloc_mark]
  simpa using hu
/-- The row of a record's bytes. -/
def packV (nm : ByteArray) (l : List Nat) : List Value := (packB nm.data.toList l).map (.int .u8)
/-- What Pack writes ahead of the samples. -/
def headB (nm : ByteArray) (n : Nat) : List Int := [82, 69, 67, 79] ++ ([(nm.size : Int)] ++ (nmI nm.data.toList ++ w2 (n : Int)))
def PackRes (base : Nat) (w0 : World) (nm : ByteArray) (l : List Nat) (e : Ending) (w : World) : Prop :=
  ∃ g cap, e = .returned (.tuple #[.slice (some ⟨g, 0, none⟩) (packB nm.data.toList l).length cap, .int .i64 0]) ∧ Own w base 5 1 g (packB nm.data.toList l).length cap (packV nm l) ∧ Below base w0 w
set_option maxRecDepth 100000 in
set_option maxHeartbeats 2000000 in
theorem Pack_any (B : Nat) (A : Option Addr) (n c : Nat) (nm : ByteArray) (l : List Nat) (w : World) (h : RecOk nm l) (hr : Reads w B 1 A n (l.map (Value.float .f32))) (hB : B ≤ w.heap.size) :
    Calls Tryz.prog 14 #[.agg #[.string nm, .slice A n c]] w (PackRes w.heap.size w nm l) := by
  obtain ⟨hl, ha⟩ := enc_at hr
  have hn := h.len
  rw [hl] at hn
  have HAt := Lib.hid ha
  have HC := Lib.hid (fun W (hW : Below w.heap.size w W) => CheckRecord_ok B A n c nm l W h (hr.below (hW.mono hB)) (by have := hW.size; omega))
  have hnm := (name_24 h.name).2
  have Hneg := Lib.hid h.neg
  have hwr : IntKind.u8.wrap (nm.size : Int) = (nm.size : Int) := by rw [IntKind.wrap_u8]; omega
  have hcv := fun W => Lib.run_convert_bytes_const (P := Tryz.prog) W 52 5 #[.int .u8 82, .int .u8 69, .int .u8 67, .int .u8 79] 4 4 (by kernel_rfl) (by kernel_rfl)
  clear h hr ha
  go_enter Tryz.func14, Tryz.ntmps14
  go_upto_region 1 with fail
  refine wp_world ?_
  intro x1 hW
  have HA : Hid (Blk x1 w.heap.size 56 #[.string nm, .slice A n c]) := Lib.hid (by rw [hW]; exact Blk.new _ _ _)
  have HL : Hid (Below w.heap.size w x1) := Lib.hid (by rw [hW]; exact (Below.refl _ _).alloc (Nat.le_refl _) _)
  have hs1 := HL.out.size
  clear hW
  have cA := HA.out.cell
  have lA := HA.out.lt
  go_wp2_with fail
  refine (HC.out _ HL.out).mono ?_
  rintro e x2 ⟨rfl, hb2⟩
  have hs2 := hb2.size
  have bA2 := HA.out.kept hb2
  have HL2 := Lib.hid (HL.out.trans (hb2.mono HL.out.size))
  have cA := bA2.cell
  have lA := bA2.lt
  clear hb2 HA HL HC
  go_wp2_with (at_builtin; refine wpList_app_full 52 5 1 1 elemU8 rfl (.tmp 15) (.tmp 20) rfl ⟨x2.heap.size, 0, none⟩ 4 [.int .u8 82, .int .u8 69, .int .u8 67, .int .u8 79] rfl rfl (cell_mark x2 _ _ _ _ _) ⟨x2.heap.size + 1, 0, none⟩ 1 1 [.int .u8 nm.size] rfl ?n1 rfl (by decide) (by unfold maxLen; decide) (by decide) ?_)
  case n1 => exact fun j u hu => by have := news_new (x2.alloc (.cells #[.int .u8 82, .int .u8 69, .int .u8 67, .int .u8 79] 5 (4, 5))) #[.int .u8 nm.size] 5 j u hu; simpa using this
  intro g3 cap3 x3 ho3 hb3 hg3 hs3
  have hs32 := hb3.size
  simp at hs32 hg3
  have hb23 : Below x2.heap.size x2 x3 := bl_
  have bA3 := bA2.kept hb23
  have HL3 := Lib.hid (HL2.out.trans (hb23.mono (by have := HL2.out.size; omega)))
  have cA := bA3.cell
  have lA := bA3.lt
  have HO3 := Lib.hid ho3
  clear hb3 ho3 hb23 bA2 HL2 hcv hwr
  go_wp2_with fail
  go_cut [5] (fun s5 wx => ∃ g cap, s5 = .slice (some ⟨g, 0, none⟩) (nm.size + 7) cap ∧ Own wx g3 5 1 g (nm.size + 7) cap ((headB nm n).map (.int .u8)) ∧ Below g3 x3 wx)
  case first =>
    go_wp2_with fail
    have hne : w.heap.size ≠ g3 := by omega
    (refine wp_region_calm [g3] [0, 1, 2, 4, 5, 6] 3 (by kernel_rfl) rfl (by kernel_rfl) (by kernel_rfl) (by kernel_rfl) ?_; simp only [pickB, List.filterMap_cons, List.filterMap_nil, List.getElem?_toArray, List.getElem?_cons_zero, List.getElem?_cons_succ]; (repeat (first | ((first | (with_reducible refine quietL_plain rfl (fun K hK => ?_)) | (with_reducible refine quietL_want (by with_unfolding_all rfl) (fun K hK => ?_))); (apply Exists.intro; refine ⟨fun wx hx => ?_, ?_⟩; (· (have hcx := ifs_ex hx); simp [go_sem, *, ↓IntWalk.iteOmega] <;> (first | rfl | exact ⟨rfl, rfl⟩ | fail)); (simp only [Act.put, List.setIfInBounds_toArray, List.set_cons_zero, List.set_cons_succ]; refine hK _ ?_; clear hK K))) | ((with_reducible refine quietL_skip (by with_unfolding_all rfl) ?_); simp only [Act.put, List.setIfInBounds_toArray, List.set_cons_zero, List.set_cons_succ]))); refine quietL_nil ?_)
    refine anyB_one (i := 3) (by kernel_rfl) rfl rfl ?_
    intro x4 hb4 K hK
    have hs4 := hb4.size
    refine wp_app_str (.tmp 22) (.tmp 24) 52 9 rfl g3 5 Tryz.underlying52 Tryz.underlying9 (by kernel_rfl) (.slice (some ⟨g3, 0, none⟩) 5 cap3) 5 _ rfl (own_kept HO3.out hb4) nm rfl (by decide) (by omega) (by omega) ?_
    intro g5 cap5 x5 ho5 hg5
    have hs5 := hg5.size
    have hb5 : Below g3 x3 x5 := (hb4.mono (by omega)).grown hg5 (by omega) (fun k hk => by simp [Value.ownBlock] at hk; omega)
    refine hK _ _ ⟨Ex.of_top hb5 hs3, ?_⟩
    clear hK K
    refine anyB_one (i := 7) (by kernel_rfl) rfl rfl ?_
    intro x6 hb6 K hK
    have hs6 := hb6.size
    have ho6 := own_kept ho5 hb6
    go_wp2_with fail
    refine (word_any g3 g5 (5 + nm.size) cap5 _ (n : Int) x6 ho6 (by omega) (by omega)).mono ?_
    rintro e x7 ⟨g7, cap7, rfl, ho7, hb7⟩
    have hb37 : Below g3 x3 x7 := (hb5.trans (hb6.mono (by omega))).trans hb7
    have hs7 := hb37.size
    go_wp2
    refine ⟨Ex.of_top hb37 hs3, ?_⟩
    refine anyB_one (i := 8) (by kernel_rfl) rfl rfl ?_
    intro x8 hb8 K hK
    have hs8 := hb8.size
    go_wp2
    refine ⟨(Ex.of_top hb37 hs3).grown hb8, ?_⟩
    refine anyB_end (by kernel_rfl) ?_
    intro x9 hb9
    simp only [Calm]
    have hb39 : Below g3 x3 x9 := (hb37.trans (hb8.mono (by omega))).trans (hb9.mono (by omega))
    have ho9 := own_kept (own_kept ho7 hb8) hb9
    have e9 : nm.size + 7 = 5 + nm.size + 2 := by omega
    go_wp2_with fail
    go_meet
    case rel =>
      refine ⟨g7, cap7, by rw [e9], ?_, hb39⟩
      rw [e9]
      have e10 : (headB nm n).map (Value.int .u8) = ([.int .u8 82, .int .u8 69, .int .u8 67, .int .u8 79] ++ [.int .u8 nm.size] ++ Lib.strCells nm) ++ [.int .u8 ((n : Int) / 256 % 256), .int .u8 ((n : Int) % 256)] := by
        unfold headB nmI w2 Lib.strCells
        simp
      rw [e10]
      exact ho9
  rename World => x4
  obtain ⟨g4, cap4, rfl, ho4, hb4⟩ := hcut
  have hs4 := hb4.size
  have HO4 := Lib.hid (own_base ho4 (b' := w.heap.size + 1) (by omega))
  have hb34 := hb4.mono (show w.heap.size + 1 ≤ g3 by omega)
  have bA4 := bA3.below hb4 (by omega)
  have HL4 := Lib.hid (HL3.out.trans (hb34.mono (by omega)))
  have cA := bA4.cell
  have lA := bA4.lt
  clear bA3 hb4 hb34 ho4 HL3 HO3 hs32 hg3 hs3
  go_wp2_with fail
  clear cA lA
  go_loopw [5, 7, 33] (fun s5 s7 i wr => ∃ k : Nat, k ≤ n ∧ i = .int .i64 k ∧ ∃ g cap, s5 = .slice (some ⟨g, 0, none⟩) (nm.size + 7 + 4 * k) cap ∧ Own wr (w.heap.size + 1) 5 1 g (nm.size + 7 + 4 * k) cap ((headB nm n ++ fltI (l.take k)).map (.int .u8)) ∧ Below (w.heap.size + 1) x4 wr) (fun _ _ i _ => n - (intOf i).toNat)
  case atStart => exact ⟨0, by omega, rfl, g4, cap4, rfl, by simpa [fltI] using HO4.out, Below.refl _ _⟩
  case round =>
    obtain ⟨k, hk, rfl, g, cap, rfl, hO, hb⟩ := hrel
    have HO := Lib.hid hO
    clear hO
    have hs := hb.size
    have hb0 := HL4.out.trans (hb.mono (by omega))
    have hs0 := hb0.size
    by_cases hlt : k < n
    · have hkl : k < l.length := by rw [hl]; exact hlt
      obtain ⟨b, o, eA, hbb, z0⟩ := HAt.out k hkl
      have kb : ∀ i, wr.cell? ⟨b, i, none⟩ = w.cell? ⟨b, i, none⟩ := fun i => hb0.cell (p := ⟨b, i, none⟩) (by simp; omega)
      rw [← kb] at z0
      clear kb hb0
      have hbw : b < wr.heap.size := by omega
      subst eA
      have hmem := List.getElem_mem hkl
      have hneg := Hneg.out _ hmem
      have Hd : Hid (fltI (l.take (k + 1)) = fltI (l.take k) ++ l4 (l[k] : Int)) := by
        show _ = _
        rw [List.take_succ_eq_append_getElem hkl]; unfold fltI; rw [List.flatMap_append]; simp
      generalize l[k] = x at *
      clear hmem HAt Hneg
      have b1 := fun y W => run_f32bits y W
      have hwx : IntKind.i64.wrap (x : Int) = (x : Int) := by rw [IntKind.wrap_i64]; omega
      have e1 : nm.size + 7 + 4 * (k + 1) = nm.size + 7 + 4 * k + 4 := by omega
      have e2 : ((headB nm n ++ (fltI (l.take k) ++ l4 (x : Int))).map (Value.int .u8)) = (headB nm n ++ fltI (l.take k)).map (Value.int .u8) ++ [.int .u8 ((x : Int) / 65536 / 256 % 256), .int .u8 ((x : Int) / 65536 % 256)] ++ [.int .u8 ((x : Int) / 256 % 256), .int .u8 ((x : Int) % 256)] := by
        unfold l4 w2
        simp
      by_cases h0 : (FloatKind.f32.format.order x 0 == some Ordering.eq) = true
      · obtain rfl := zero_eq hneg h0
        go_wp2_with fail
        refine (long_any (w.heap.size + 1) g (nm.size + 7 + 4 * k) cap _ ((0 : Nat) : Int) wr HO.out (by omega) (by omega)).mono ?_
        rintro e w5 ⟨g5, cap5, rfl, ho5, hb5⟩
        go_wp2
        go_roundw
        case rel => exact ⟨k + 1, by omega, by go_num, g5, cap5, by rw [e1], by rw [e1, Hd.out, e2]; exact ho5, hb.trans hb5⟩
        case measure => simp [intOf]; omega
      · rw [Bool.not_eq_true] at h0
        go_wp2_with fail
        refine (long_any (w.heap.size + 1) g (nm.size + 7 + 4 * k) cap _ (x : Int) wr HO.out (by omega) (by omega)).mono ?_
        rintro e w5 ⟨g5, cap5, rfl, ho5, hb5⟩
        go_wp2
        go_roundw
        case rel => exact ⟨k + 1, by omega, by go_num, g5, cap5, by rw [e1], by rw [e1, Hd.out, e2]; exact ho5, hb.trans hb5⟩
        case measure => simp [intOf]; omega
    · obtain rfl : k = n := by omega
      have eb : headB nm k ++ fltI (l.take k) = bodyB nm.data.toList l := by
        rw [List.take_of_length_le (by omega)]
        unfold headB bodyB
        rw [hl]
        simp
      have el : (bodyB nm.data.toList l).length = nm.size + 7 + 4 * k := by rw [body_len, hl]; simp; omega
      have HO' : Hid (Own wr (w.heap.size + 1) 5 1 g (nm.size + 7 + 4 * k) cap ((bodyB nm.data.toList l).map (.int .u8))) := Lib.hid (by rw [← eb]; exact HO.out)
      have hbd := Lib.hid (body_bd (nm := nm.data.toList) (by simp; omega) l)
      have HP : Hid (nm.size + 7 + 4 * k + 4 = (packB nm.data.toList l).length ∧ packV nm l = (bodyB nm.data.toList l).map (Value.int .u8) ++ [.int .u8 (cks (bodyB nm.data.toList l) / 65536 / 256 % 256), .int .u8 (cks (bodyB nm.data.toList l) / 65536 % 256)] ++ [.int .u8 (cks (bodyB nm.data.toList l) / 256 % 256), .int .u8 (cks (bodyB nm.data.toList l) % 256)]) := Lib.hid ⟨by rw [pack_len, hl]; simp; omega, by
        unfold packV packB l4 w2
        simp⟩
      have hsw := (Own.lt HO'.out).2
      clear HO eb el HAt Hneg
      generalize bodyB nm.data.toList l = bs at *
      go_wp2_with fail
      refine (checksum_any (g + 1) (some ⟨g, 0, none⟩) (nm.size + 7 + 4 * k) cap bs wr HO'.out.reads (by unfold maxLen; omega) hbd.out).mono ?_
      rintro e w5 ⟨rfl, rfl⟩
      go_wp2_with fail
      refine (long_any (w.heap.size + 1) g (nm.size + 7 + 4 * k) cap _ (cks bs) wr HO'.out (by omega) (by omega)).mono ?_
      rintro e w5 ⟨g5, cap5, rfl, ho5, hb5⟩
      go_wp2
      go_ret2
      refine ⟨g5, cap5, ?_, own_base ?_ (Nat.le_succ _), ?_⟩
      · rw [← HP.out.1]; rfl
      · rw [← HP.out.1, HP.out.2]
        exact ho5
      · exact hb0.trans (hb5.mono (by omega))
end Go.Proofs.YtafnebfchhmgcaaGreat
