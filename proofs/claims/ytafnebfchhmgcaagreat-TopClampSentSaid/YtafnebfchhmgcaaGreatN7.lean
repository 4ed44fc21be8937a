/- Unpack of a packed record. -/
import Derived.Test.YtafnebfchhmgcaaGreatN6
namespace Go.Proofs.YtafnebfchhmgcaaGreat
open Go Go.RowKit Go.Sort Go.Shelf
set_option linter.unusedSimpArgs false
set_option linter.unusedVariables false
attribute [local go_sem] cell_if frozen_if grow_cell
attribute [local go_sem] Oper.semAt_some
theorem run_f32from (y : Int) (W : World) : (callFunc 66 #[.int .u32 y]).run Tryz.prog W = .ok (.value (.float .f32 y.toNat)) W := by
  rw [run_callFunc_extern (e := Extern.MathFloatBits.float32frombits) Tryz.func66 rfl rfl (by kernel_rfl) (by kernel_rfl)]
  rfl
/-- A byte string that is a text. -/
theorem conv_row (W : World) (B : Nat) (A : Option Addr) (c : Nat) (l : List UInt8) (h0 : 0 < l.length) (hr : Reads W B 1 A l.length ((nmI l).map (.int .u8))) :
    (convert 52 9 (.slice A l.length c)).run Tryz.prog W = .ok (.string ⟨l.toArray⟩) W := by
  obtain ⟨b, o, rfl, hb, hc⟩ := hr.2 h0
  refine run_convert_bytes_back W _ _ 5 ⟨b, o, none⟩ c l Tryz.underlying52 Tryz.underlying5 Tryz.underlying9 fun j hj => ?_
  rw [Addr.add_lit]
  exact hc j _ (by unfold nmI; simp [hj])
theorem tail_number (B b o c : Nat) (nm : ByteArray) (l : List Nat) (W : World) (hr : Reads W B 1 (some ⟨b, o, none⟩) (4 * l.length + 4) ((restB nm.data.toList l).map (.int .u8))) :
    Calls Tryz.prog 63 #[.slice (some ⟨b, o + 4 * l.length, none⟩) 4 c] W fun e w' => e = .returned (.int .i64 (cks (bodyB nm.data.toList l))) ∧ W = w' := by
  have hlr := tail_len nm.data.toList l
  have hck := cks_bound (bodyB nm.data.toList l)
  have h1 := reads_drop (bs := restB nm.data.toList l) (by rw [hlr]; exact hr) (4 * l.length) (by omega)
  rw [(tail_parts nm.data.toList l).2, l4_len] at h1
  have h2 := number_any B _ 4 c _ W h1 (by decide) l4_bd
  rw [num_l4 (by omega)] at h2
  exact h2
theorem head_checksum (B b o n c : Nat) (nm : ByteArray) (l : List Nat) (W : World) (hn : (packB nm.data.toList l).length = n) (hs : nm.size ≤ 24) (h5 : n ≤ 5000) (hr : Reads W B 1 (some ⟨b, o, none⟩) n ((packB nm.data.toList l).map (.int .u8))) :
    Calls Tryz.prog 60 #[.slice (some ⟨b, o, none⟩) (n - 4) c] W fun e w' => e = .returned (.int .i64 (cks (bodyB nm.data.toList l))) ∧ W = w' := by
  have h1 := reads_tk (bs := packB nm.data.toList l) (by rw [hn]; exact hr) (n - 4) (by omega)
  have h3 := pack_body nm.data.toList l
  rw [hn] at h3
  rw [h3] at h1
  exact checksum_any B _ (n - 4) c _ W h1 (by unfold maxLen; omega) (body_bd (by simp; omega) l)
theorem tail_floats (B b o : Nat) (nm : ByteArray) (l : List Nat) (W : World) (hr : Reads W B 1 (some ⟨b, o, none⟩) (4 * l.length + 4) ((restB nm.data.toList l).map (.int .u8))) :
    Reads W B 1 (some ⟨b, o, none⟩) (4 * l.length) ((fltI l).map (.int .u8)) := by
  have hlr := tail_len nm.data.toList l
  have h1 := reads_tk (bs := restB nm.data.toList l) (by rw [hlr]; exact hr) (4 * l.length) (by omega)
  rw [(tail_parts nm.data.toList l).1] at h1
  exact h1
theorem piece_number (B b o : Nat) (l : List Nat) (k : Fin l.length) (W : World) (hx : l[k] < 2147483648) (hr : Reads W B 1 (some ⟨b, o, none⟩) (4 * l.length) ((fltI l).map (.int .u8))) :
    Calls Tryz.prog 63 #[.slice (some ⟨b, o + 4 * k.1, none⟩) 4 4] W fun e w' => e = .returned (.int .i64 (l[k] : Int)) ∧ W = w' := by
  have hfl := fltI_len l
  have hk := k.2
  have h1 := reads_drop (bs := fltI l) (by rw [hfl]; exact hr) (4 * k.1) (by omega)
  have h2 := reads_tk (bs := (fltI l).drop (4 * k.1)) h1 4 (by rw [List.length_drop, hfl]; omega)
  rw [flt_chunk l k.1 hk] at h2
  have h3 := number_any B _ 4 4 _ W h2 (by decide) l4_bd
  rw [num_l4 (n := (l[k.1] : Int)) (by have : l[k.1] < 2147483648 := hx; omega)] at h3
  exact h3
theorem wpIn_append_own_at {F : Fence} {nF : Nat} {P : Program} {o : Oper} {a : Act} {K : Act → World → Prop} {Q : Exit → Act → World → Prop} {w : World} (t e size bytes : Nat) (E : Elem P t e size bytes) (s x : Operand)
    (ho : o.op = .call { callee := .builtin .append, args := #[s, x], argTypes := #[t, t] }) (base : Nat) (v : Value) (n : Nat) (xs : List Value) (hs : a.eval s = v) (hown : w.ownsRow base e size v n xs)
    (ad : Addr) (m c : Nat) (news : List Value) (hx : a.eval x = .slice (some ad) m c) (hl : news.length = m * size) (hnews : ∀ j u, news[j]? = some u → w.cell? (ad.add j) = some u) (h1 : ∀ u ∈ news, u.oneCell' = true)
    (h63 : n + m ≤ maxLen) (hbytes : (n + m) * bytes ≤ 140737488355328) (hbase : base ≤ w.heap.size)
    (h : ∀ v' w', w'.ownsRow base e size v' (n + m) (xs ++ news) → w.grownBy w' v.ownBlock → K (a.put o.dst v') w') : o.wpIn F nF P a w K Q := by
  obtain ⟨ht, ⟨i, z, hi, hz, hsize, hby, hzs⟩, hsz⟩ := E
  obtain ⟨v', w', hr, h2, h3, h4⟩ := run_append_own (P := P) w base t o.type e i z size bytes ht hi hz hsize hby hzs hsz v n xs hown ad m c news hl hnews h1 h63 hbytes hbase
  unfold Oper.wpIn
  refine ⟨by simp [Oper.about, ho, resolve, Target.leads, Sem.run_pure], ?_⟩
  rw [Oper.semAt_plain F _ _ (by rw [ho]; intro c hc'; cases hc')]
  simp [execOp, ho, resolve, invoke, builtin, hs, hx, hr, Result.andThen]
  exact h v' w' h2 h3
def piV {l : List Nat} (pre : List (Fin l.length)) : List Value := pre.map fun i => Value.float .f32 l[i]
theorem piV_to (l : List Nat) : ∀ k, k ≤ l.length → piV (fTo l.length k) = (l.take k).map (Value.float .f32)
  | 0, _ => rfl
  | k + 1, h => by
    have ih := piV_to l k (by omega)
    rw [fTo_succ (by omega), List.take_succ_eq_append_getElem (by omega), List.map_append, ← ih]
    unfold piV
    rw [List.map_append]
    rfl
theorem piV_all (l : List Nat) : piV (fTo l.length l.length) = l.map (Value.float .f32) := by
  rw [piV_to l l.length (Nat.le_refl _), List.take_of_length_le (Nat.le_refl _)]
theorem res_rec {fn : Func} {p q b : Nat} {T : TypeId} {tmps : Array Value} {W : World} {v0 v1 u : Value} (hr : fn.results = #[.cell p 56, .tmp q]) (hp : tmps[p]?.getD undef = .pointer (some ⟨b, 0, none⟩)) (hq : tmps[q]?.getD undef = u) (hk : Blk W b T #[v0, v1]) :
    (results fn tmps).run Tryz.prog W = .ok (.tuple #[.agg #[v0, v1], u]) W := by
  have c0 : W.cell? ⟨b, 0, none⟩ = some v0 := hk.cell 0
  have c1 : W.cell? ⟨b, 1, none⟩ = some v1 := hk.cell 1
  clear hk
  unfold results
  rw [hr]
  simp [go_sem, hp, hq, c0, c1]
theorem row_baseR {w : World} {b b' e size n : Nat} {v : Value} {xs : List Value} (h : w.ownsRow b e size v n xs) (hb : b' ≤ b) : w.ownsRow b' e size v n xs := by
  refine ⟨h.1, ?_⟩
  rcases h.2 with h1 | ⟨g', cap', cur, e1, h2, h3⟩
  · exact .inl h1
  · exact .inr ⟨g', cap', cur, e1, Nat.le_trans hb h2, h3⟩
/-- Between two pieces. -/
structure UnI (g : Nat) (wb : World) (nm : ByteArray) (l : List Nat) (pre : List (Fin l.length)) (W : World) : Prop where
  out : ∃ v, Blk W g 56 #[.string nm, v] ∧ W.ownsRow (g + 1 + 1 + 1 + 1) 49 1 v pre.length (piV pre)
  flag : Blk W (g + 1) 4 #[.bool false]
  low : Below g wb W
  le : g + 1 + 1 + 1 + 1 ≤ W.heap.size
theorem UnI.grown {g : Nat} {wb : World} {nm : ByteArray} {l : List Nat} {pre : List (Fin l.length)} {U V : World} {row : Option Nat} (hs : UnI g wb nm l pre U) (hg : U.grownBy V row) (hr : ∀ r, row = some r → g + 1 + 1 + 1 + 1 ≤ r ∧ ∀ t c, ¬ Blk U r t c) : UnI g wb nm l pre V := by
  obtain ⟨⟨v, h1, h2⟩, h3, h4, h5⟩ := hs
  exact ⟨⟨v, (hg.block _ h1.lt (fun e => (hr _ e.symm).2 _ _ h1)).trans h1, row_grown h2 hg fun r e c hb => (hr r e).2 _ _ hb⟩, (hg.block _ h3.lt (fun e => (hr _ e.symm).2 _ _ h3)).trans h3, h4.grown hg (by omega) (fun j hj => by have := (hr j hj).1; omega), Nat.le_trans h5 hg.size⟩
/-- The record that has come back. -/
def UnRes (base : Nat) (w0 : World) (nm : ByteArray) (l : List Nat) (e : Ending) (w : World) : Prop :=
  ∃ A c, e = .returned (.tuple #[.agg #[.string nm, .slice A l.length c], .int .i64 0]) ∧ w.ownsRow base 49 1 (.slice A l.length c) l.length (l.map (Value.float .f32)) ∧ Below base w0 w
set_option maxRecDepth 100000 in
set_option maxHeartbeats 4000000 in
theorem Unpack_any (B : Nat) (A : Option Addr) (n c : Nat) (nm : ByteArray) (l : List Nat) (w : World) (h : RecOk nm l) (hr : Reads w B 1 A n ((packB nm.data.toList l).map (.int .u8))) (hB : B ≤ w.heap.size) (hc : n ≤ c) :
    Calls Tryz.prog 15 #[.slice A n c] w (UnRes w.heap.size w nm l) := by
  have hnl : (packB nm.data.toList l).length = n := by simpa using hr.1
  have hpl := pack_len nm.data.toList l
  have hs24 := name_24 h.name
  have hlen := h.len
  have hsz : nm.data.toList.length = nm.size := by simp
  rw [hnl, hsz] at hpl
  obtain ⟨b, o, rfl, hbB, _⟩ := hr.2 (by omega)
  have q1 : ¬ (400000 : Int) < (n : Int) := by omega
  have q2 : ¬ (n : Int) < 4 := by omega
  have q3 : ¬ c = 4 := by omega
  have q4 : 4 ≤ c := by omega
  have hd1 : decide ((400000 : Int) < (n : Int)) = false := decide_eq_false q1
  have hd2 : decide ((n : Int) < 4) = false := decide_eq_false q2
  have HPl := Lib.hid hpl
  have HNl := Lib.hid hnl
  have e4 := part0 nm.data.toList l
  have HR4 := Lib.hid (show Reads w B 1 (some ⟨b, o, none⟩) 4 ((nmI [82, 69, 67, 79]).map (.int .u8)) from by
    have h1 := reads_tk (bs := packB nm.data.toList l) (by rw [hnl]; exact hr) 4 (by omega)
    rw [e4] at h1
    exact h1)
  have HRd := Lib.hid (show Reads w B 1 (some ⟨b, o + 4, none⟩) (n - 4) (((packB nm.data.toList l).drop 4).map (.int .u8)) from by
    have h1 := reads_drop (bs := packB nm.data.toList l) (by rw [hnl]; exact hr) 4 (by omega)
    rw [List.length_drop, hnl] at h1
    exact h1)
  have HT0 := Lib.hid (show (packB nm.data.toList l).drop 4 = (nm.size : Int) :: (nmI nm.data.toList ++ (w2 (l.length : Int) ++ restB nm.data.toList l)) from by rw [part4, hsz])
  have HLb := Lib.hid (tail_len nm.data.toList l)
  have HLn := Lib.hid (show (nmI nm.data.toList).length = nm.size from by rw [nmI_len, hsz])
  have hbd := pack_bd (nm := nm.data.toList) (by omega) l
  have HW2 := Lib.hid (show numB (w2 (l.length : Int)) = (l.length : Int) from num_w2 (by omega))
  have HOk := Lib.hid h
  have HR := Lib.hid hr
  have HBd := Lib.hid hbd
  clear hpl hnl e4 h hr hbd hsz
  refine (callsIn_wide (n := 9)).1 ?_
  refine callsIn_of_wp_marks Tryz.func15 rfl trivial ?_ rfl
  refine wpIn_wide.2 ?_
  simp only [Tryz.ntmps15, List.size_toArray, List.length_cons, List.length_nil, Nat.reduceAdd, Nat.reduceSub, Array.replicate_succ, Array.replicate_zero, List.push_toArray, List.append_toArray, List.nil_append, List.cons_append]
  go_upto_region 1 with fail
  refine wp_world ?_
  intro x1 hW
  have HA : Hid (Blk x1 w.heap.size 56 #[.string ⟨#[]⟩, .slice none 0 0]) := Lib.hid (by rw [hW]; exact Blk.new _ _ _)
  have HL : Hid (Below w.heap.size w x1) := Lib.hid (by rw [hW]; exact (Below.refl _ _).alloc (Nat.le_refl _) _)
  have hs1 : w.heap.size + 1 ≤ x1.heap.size := by rw [hW]; simp
  clear hW
  go_wp2_with (first | (go_at_call 62; refine (pwhen_any _ _ _).mono ?_; rintro e wx ⟨rfl, rfl⟩))
  refine (pfirst_any (x1.heap.size + 1) (some ⟨x1.heap.size, 0, none⟩) 2 2 [0, 0] _ (by simpa [whenE] using Reads.new (size := 1) x1 (([0, 0] : List Int).map (.int .i64)).toArray 31 2 rfl) (by unfold maxLen; decide)).mono ?_
  rintro e x2 ⟨rfl, hx2⟩
  have hb2 : Below x1.heap.size x1 x2 := by rw [← hx2]; exact (Below.refl _ _).alloc (Nat.le_refl _) _
  clear hx2
  have hs2 := hb2.size
  have bA2 := HA.out.kept hb2
  have HL2 := Lib.hid (HL.out.trans (hb2.mono (by omega)))
  have hcv := conv_row x2 B (some ⟨b, o, none⟩) c [82, 69, 67, 79] (by decide) (HR4.out.below (HL2.out.mono hB))
  simp at hcv
  clear HA HL hb2
  go_wp2_with fail
  obtain ⟨x3, hx3⟩ : ∃ x3, x3 = x2.alloc (.cells #[.slice (some ⟨b, o + 4, none⟩) (n - 4) (c - 4), .bool false] 133) := ⟨_, rfl⟩
  have hb3 : Below x2.heap.size x2 x3 := by rw [hx3]; exact (Below.refl _ _).alloc (Nat.le_refl _) _
  have hs3 : x2.heap.size + 1 ≤ x3.heap.size := by rw [hx3]; simp
  have HL3 := Lib.hid (HL2.out.trans (hb3.mono (by omega)))
  have bA3 := bA2.kept hb3
  have HT3 : Hid (RdAt B x2.heap.size ((nm.size : Int) :: (nmI nm.data.toList ++ (w2 (l.length : Int) ++ restB nm.data.toList l))) x3) := Lib.hid (by
    have hl4 : ((packB nm.data.toList l).drop 4).length = n - 4 := by rw [List.length_drop, HNl.out]
    rw [← HT0.out]
    refine ⟨⟨b, o + 4, c - 4, ?_, ?_, ?_⟩, by omega⟩
    · rw [hl4, hx3]; exact Blk.new _ _ _
    · rw [hl4]; exact HRd.out.below (HL3.out.mono hB)
    · rw [hl4]; omega)
  rw [← hx3]
  clear hx3 hb3 bA2 HL2 hcv HRd HR4
  refine (take_any B x2.heap.size 1 _ x3 HT3.out (by simp) (by have := HLb.out; have := HLn.out; simp; rw [this]; simp [w2]; omega)).mono ?_
  rintro e x4 ⟨A4, c4, v4, rfl, hr4, hrt4, hx4, hk4⟩
  have hb4 : Below x2.heap.size x3 x4 := by rw [hx4]; exact (Below.refl x2.heap.size x3).setCell (p := ⟨x2.heap.size, 0, none⟩) (Nat.le_refl _) _
  have hs4 := hb4.size
  have HL4 := Lib.hid (HL3.out.trans (hb4.mono (by omega)))
  have bA4 := bA3.below hb4 (by omega)
  clear hx4 hb4 HL3 bA3
  have hlA : (nmI nm.data.toList ++ (w2 (l.length : Int) ++ restB nm.data.toList l)).length = nm.size + (2 + (4 * l.length + 4)) := by rw [List.length_append, List.length_append, HLn.out, w2_len, HLb.out]
  have hlB : (w2 (l.length : Int) ++ restB nm.data.toList l).length = 2 + (4 * l.length + 4) := by rw [List.length_append, w2_len, HLb.out]
  have HlA := Lib.hid hlA
  have HlB := Lib.hid hlB
  have HT4 : Hid (RdAt B x2.heap.size (nmI nm.data.toList ++ (w2 (l.length : Int) ++ restB nm.data.toList l)) x4) := Lib.hid hrt4
  clear hlA hlB hrt4 HT3
  go_wp2_with fail
  refine (number_any B A4 1 c4 [(nm.size : Int)] x4 hr4 (by decide) (by intro z hz; simp at hz; omega)).mono ?_
  rw [num_one]
  rintro e x5 ⟨rfl, rfl⟩
  clear hr4
  go_wp2_with fail
  refine (take_any B x2.heap.size nm.size _ x4 HT4.out (by rw [HlA.out]; omega) (by rw [HlA.out]; omega)).mono ?_
  rintro e x5 ⟨A5, c5, v5, rfl, hr5, hrt5, hx5, hk5⟩
  rw [(take_left HLn.out).1] at hr5
  rw [(take_left HLn.out).2] at hrt5
  have hb5 : Below x2.heap.size x4 x5 := by rw [hx5]; exact (Below.refl x2.heap.size x4).setCell (p := ⟨x2.heap.size, 0, none⟩) (Nat.le_refl _) _
  have hs5 := hb5.size
  have HL5 := Lib.hid (HL4.out.trans (hb5.mono (by omega)))
  have bA5 := bA4.below hb5 (by omega)
  clear hx5 hb5 HL4 bA4
  have HT5 := Lib.hid hrt5
  have hcv5 : (convert 52 9 (.slice A5 nm.size c5)).run Tryz.prog x5 = .ok (.string nm) x5 := by
    have e1 : nm.data.toList.length = nm.size := by simp
    have h := conv_row x5 B A5 c5 nm.data.toList (by omega) (by rw [e1]; exact hr5)
    rw [e1] at h
    simpa using h
  clear hrt5 HT4 hr5
  go_wp2_with fail
  refine (take_any B x2.heap.size 2 _ x5 HT5.out (by rw [HlB.out]; omega) (by rw [HlB.out]; omega)).mono ?_
  rintro e x6 ⟨A6, c6, v6, rfl, hr6, hrt6, hx6, hk6⟩
  rw [(take_left (w2_len _)).1] at hr6
  rw [(take_left (w2_len _)).2] at hrt6
  have hb6 : Below x2.heap.size x5 x6 := by rw [hx6]; exact (Below.refl x2.heap.size x5).setCell (p := ⟨x2.heap.size, 0, none⟩) (Nat.le_refl _) _
  have hs6 := hb6.size
  have HL6 := Lib.hid (HL5.out.trans (hb6.mono (by omega)))
  have bA6 := bA5.below hb6 (by omega)
  clear hx6 hb6 HL5 bA5
  have HT6 := Lib.hid hrt6
  clear hrt6 HT5 hcv5
  go_wp2_with fail
  refine (number_any B A6 2 c6 (w2 (l.length : Int)) x6 hr6 (by decide) w2_bd).mono ?_
  rw [HW2.out]
  rintro e x7 ⟨rfl, rfl⟩
  clear hr6
  go_wp2_with fail
  have ek : (4 * (l.length : Int) + 4) = ((4 * l.length + 4 : Nat) : Int) := by omega
  rw [ek]
  refine (take_any B x2.heap.size (4 * l.length + 4) _ x6 HT6.out (by rw [HLb.out]; omega) (by rw [HLb.out]; omega)).mono ?_
  rintro e x7 ⟨A7, c7, v7, rfl, hr7, hrt7, hx7, hk7⟩
  have hlr := HLb.out
  rw [List.take_of_length_le (by omega)] at hr7
  rw [List.drop_eq_nil_of_le (by omega)] at hrt7
  have hb7 : Below x2.heap.size x6 x7 := by rw [hx7]; exact (Below.refl x2.heap.size x6).setCell (p := ⟨x2.heap.size, 0, none⟩) (Nat.le_refl _) _
  have hs7 := hb7.size
  have HL7 := Lib.hid (HL6.out.trans (hb7.mono (by omega)))
  have bA7 := bA6.below hb7 (by omega)
  clear hx7 hb7 HL6 bA6
  have HR7 := Lib.hid hr7
  obtain ⟨gz, oz, cz, hbz, _, _⟩ := hrt7.ex
  have cZ := hbz.cell
  have lZ := hbz.lt
  clear hrt7 hr7 HT6 ek hlr
  go_wp2_with fail
  go_cut [10] from 54 to 119 (fun s10 wx => s10 = .int .i64 0 ∧ Below x7.heap.size x7 wx)
  case first =>
    have HP := Lib.hid (fun (q : Bool) k W => pwhen_any q k W)
    go_wp2_with fail
    (refine wp_region_calm [] [0, 1, 2, 3, 4, 5, 6, 7, 8, 9, 10, 11] 3 (by kernel_rfl) rfl (by kernel_rfl) (by kernel_rfl) (by kernel_rfl) ?_; simp only [pickB, List.filterMap_cons, List.filterMap_nil, List.getElem?_toArray, List.getElem?_cons_zero, List.getElem?_cons_succ]; (repeat (first | ((first | (with_reducible refine quietL_plain rfl (fun K hK => ?_)) | (with_reducible refine quietL_want (by with_unfolding_all rfl) (fun K hK => ?_))); (apply Exists.intro; refine ⟨fun wx hx => ?_, ?_⟩; (· (have hcx := ifs_ex hx); simp [go_sem, *, ↓IntWalk.iteOmega] <;> (first | rfl | exact ⟨rfl, rfl⟩ | (first | (with_reducible exact calls_B (calls_below (HP.out _ _ _)))))); (simp only [Act.put, List.setIfInBounds_toArray, List.set_cons_zero, List.set_cons_succ]; refine hK _ ?_; clear hK K))) | ((with_reducible refine quietL_skip (by with_unfolding_all rfl) ?_); simp only [Act.put, List.setIfInBounds_toArray, List.set_cons_zero, List.set_cons_succ]))); refine quietL_nil ?_)
    (refine anyB_one (i := 12) (by kernel_rfl) rfl rfl ?_; intro w8 hb8 K hK; have hs8 := hb8.size; (try simp at hs8); go_wp2; refine ⟨xs_, ?_⟩)
    (refine anyB_one (i := 13) (by kernel_rfl) rfl rfl ?_; intro w9 hb9 K hK; obtain ⟨hc9, hf9⟩ := ifs_of hb9; have hs9 := hb9.size; (try simp at hs9); go_wp2_with fail; refine (pfirst_any (w8.heap.size + 1) _ 2 2 [0, 0] _ ((by simpa using Reads.new (size := 1) w8 (([0, 0]).map (.int .i64)).toArray 31 2 rfl : Reads (w8.alloc (.cells (([0, 0]).map (.int .i64)).toArray 31)) (w8.heap.size + 1) 1 (some ⟨w8.heap.size, 0, none⟩) 2 (([0, 0]).map (.int .i64))).below (hb9.mono (by simp))) (by unfold maxLen; decide)).mono ?_; rintro e w9' ⟨rfl, rfl⟩; go_wp2; refine ⟨xs_, ?_⟩)
    (refine anyB_one (i := 14) (by kernel_rfl) rfl rfl ?_; intro w10 hb10 K hK; have hs10 := hb10.size; (try simp at hs10); go_wp2; refine ⟨xs_, ?_⟩)
    (refine anyB_end (by kernel_rfl) ?_; intro w11 hb11; have hs11 := hb11.size; (try simp at hs11); simp only [Calm])
    have hbq : Below x7.heap.size x7 w11 := bl_
    go_wp2_with fail
    go_meet
    case rel => exact ⟨rfl, hbq⟩
  rename World => x8
  obtain ⟨rfl, hb8⟩ := hcut
  have hs8 := hb8.size
  have HL8 := Lib.hid (HL7.out.trans (hb8.mono (by omega)))
  have bA8 := bA7.kept hb8
  have HR8 := Lib.hid (HR7.out.below (hb8.mono (by omega)))
  clear cZ lZ hbz HL7 bA7 HR7 hb8
  obtain ⟨b7, o7, rfl, hb7, _⟩ := HR8.out.2 (by omega)
  have hw8 := HL8.out.size
  obtain ⟨ck, hck⟩ : ∃ ck, cks (bodyB nm.data.toList l) = ck := ⟨_, rfl⟩
  have hlr := HLb.out
  have HNum : Hid (∀ W, Below x8.heap.size x8 W → Calls Tryz.prog 63 #[.slice (some ⟨b7, o7 + 4 * l.length, none⟩) 4 (c7 - 4 * l.length)] W fun e w' => e = .returned (.int .i64 ck) ∧ W = w') := Lib.hid (fun W hW => by
    rw [← hck]
    exact tail_number B b7 o7 (c7 - 4 * l.length) nm l W (HR8.out.below (hW.mono (by omega))))
  have HChk : Hid (∀ W, Below x8.heap.size x8 W → Calls Tryz.prog 60 #[.slice (some ⟨b, o, none⟩) (n - 4) c] W fun e w' => e = .returned (.int .i64 ck) ∧ W = w') := Lib.hid (fun W hW => by
    rw [← hck]
    exact head_checksum B b o n c nm l W HNl.out (by omega) (by have := HPl.out; omega) (HR.out.below ((HL8.out.trans (hW.mono (by omega))).mono hB)))
  have q7 : ¬ c7 = 4 * l.length := by omega
  have hwm : IntKind.i64.wrap (4 * (l.length : Int)) = ((4 * l.length : Nat) : Int) := by rw [IntKind.wrap_i64]; omega
  have htn : (4 * (l.length : Int)).toNat = 4 * l.length := by omega
  have htn2 : ((n : Int) - 4).toNat = n - 4 := by omega
  have hwn : IntKind.i64.wrap ((n : Int) - 4) = (n : Int) - 4 := by have := HPl.out; rw [IntKind.wrap_i64]; omega
  have hin : (0 : Int) ≤ (n : Int) - 4 := by have := HPl.out; omega
  have q8 : 4 * l.length ≤ c7 := by omega
  have q9 : n - 4 ≤ c := by omega
  have HT8 : Hid (Reads x8 B 1 (some ⟨b7, o7, none⟩) (4 * l.length) ((fltI l).map (.int .u8))) := Lib.hid (tail_floats B b7 o7 nm l x8 HR8.out)
  clear HR8 hlr hck
  go_wp2_with fail
  go_cut [83] from 72 to 119 (fun s83 wx => s83 = .bool false ∧ Below x8.heap.size x8 wx)
  case first =>
    go_wp2_with fail
    (refine wp_region_calm [] [0, 1, 2, 3, 4, 5, 6, 7, 8, 9, 10] 1 (by kernel_rfl) rfl (by kernel_rfl) (by kernel_rfl) (by kernel_rfl) ?_; simp only [pickB, List.filterMap_cons, List.filterMap_nil, List.getElem?_toArray, List.getElem?_cons_zero, List.getElem?_cons_succ]; (repeat (first | ((first | (with_reducible refine quietL_plain rfl (fun K hK => ?_)) | (with_reducible refine quietL_want (by with_unfolding_all rfl) (fun K hK => ?_))); (apply Exists.intro; refine ⟨fun wx hx => ?_, ?_⟩; (· (have hcx := ifs_ex hx); simp [go_sem, *, ↓IntWalk.iteOmega] <;> (first | rfl | exact ⟨rfl, rfl⟩ | (first | (with_reducible exact calls_B (calls_below (HNum.out _ (Ex.low hx)))) | (with_reducible exact calls_B (calls_below (HChk.out _ (Ex.low hx))))))); (simp only [Act.put, List.setIfInBounds_toArray, List.set_cons_zero, List.set_cons_succ]; refine hK _ ?_; clear hK K))) | ((with_reducible refine quietL_skip (by with_unfolding_all rfl) ?_); simp only [Act.put, List.setIfInBounds_toArray, List.set_cons_zero, List.set_cons_succ]))); refine quietL_nil ?_)
    (refine anyB_one (i := 11) (by kernel_rfl) rfl rfl ?_; intro w9 hb9 K hK; have hs9 := hb9.size; (try simp at hs9); go_wp2; refine ⟨xs_, ?_⟩)
    (refine anyB_end (by kernel_rfl) ?_; intro w10 hb10; have hs10 := hb10.size; (try simp at hs10); simp only [Calm])
    have hbq : Below x8.heap.size x8 w10 := bl_
    go_wp2_with fail
    go_meet
    case rel => exact ⟨rfl, hbq⟩
  rename World => x9
  obtain ⟨rfl, hb9⟩ := hcut
  have hs9 := hb9.size
  have HL9 := Lib.hid (HL8.out.trans (hb9.mono (by have := HL8.out.size; omega)))
  have bA9 := bA8.kept hb9
  have HT9 := Lib.hid (HT8.out.below (hb9.mono (by omega)))
  clear HT8 bA8 hb9 HL8 HNum HChk htn2 hwn hin q9
  go_wp2_with fail
  refine (Chunk_any _ _ _ _).mono ?_
  rintro e wb ⟨rfl, hwb⟩
  have hbw : Below x9.heap.size x9 wb := by rw [← hwb]; exact bl_
  have b1 : Blk wb x9.heap.size 56 #[.string nm, .slice none 0 0] := by rw [← hwb]; exact bk_
  have b2 : Blk wb (x9.heap.size + 1) 4 #[.bool false] := by rw [← hwb]; exact bk_
  have b3 : Blk wb (x9.heap.size + 1 + 1) 52 #[.slice (some ⟨b7, o7, none⟩) (4 * l.length) c7] := by rw [← hwb]; exact bk_
  have b4 : Blk wb (x9.heap.size + 1 + 1 + 1) 3 #[.int .i64 4] := by rw [← hwb]; exact bk_
  have hsb : wb.heap.size = x9.heap.size + 1 + 1 + 1 + 1 := by rw [← hwb]; simp
  have HTb := Lib.hid (HT9.out.below (hbw.mono (by omega)))
  clear hwb
  simp only [World.size_alloc]
  go_wp2_with fail
  have HNeg := Lib.hid HOk.out.neg
  have HCh : Hid (SeqStopsK Fence.wide 8 Tryz.prog 117 #[.pointer (some ⟨x9.heap.size + 1 + 1, 0, none⟩), .pointer (some ⟨x9.heap.size + 1 + 1 + 1, 0, none⟩)] (chV b7 o7 l.length) (KpC B (x9.heap.size + 1 + 1) (x9.heap.size + 1 + 1 + 1)) (fun xs => xs = fTo l.length l.length) (fun _ => True) 1001 wb) :=
    Lib.hid (ch_stops 8 _ _ B b7 o7 l.length c7 wb (by omega) (by omega) hlen q8 b3 b4)
  refine (wpIn_wide (n := 9)).1 ?_
  change Code.wpIn _ _ _ (Code.rangeFunc _ _ _ _) _ ?act _
  refine wpIn_rangeFunc_ownH rfl (by omega) (gf := 117) (lb := #[.pointer (some ⟨x9.heap.size + 1 + 1, 0, none⟩), .pointer (some ⟨x9.heap.size + 1 + 1 + 1, 0, none⟩)]) rfl trivial (enters_of Tryz.func117 (by kernel_rfl) rfl)
    HCh.out KpC.t (KpC.b (by omega) (by omega) (by omega)) (Below.refl _ _) (fun _ => rfl)
    (fun pre W => UnI x9.heap.size wb nm l pre W)
    (fun _ _ _ => False)
    ?own (fun _ _ _ _ _ hs _ _ => hs) ?start
    (fun x a' W => a' = { (?act : Act) with tmps := ((?act : Act).tmps.setIfInBounds 92 (.slice (some ⟨b7, o7 + 4 * x.1, none⟩) 4 4)).setIfInBounds 13 (.slice (some ⟨b7, o7 + 4 * x.1, none⟩) 4 4) }) ?ownA ?assign ?body ?done ?stop
  case own =>
    exact fun pre U V row hs hg hr => hs.grown hg fun r e => ⟨by have := (hr r e).1; omega, no_blk (hr r e).2⟩
  case start => exact ⟨⟨.slice none 0 0, b1, World.ownsRow_nil _ _ _ _⟩, b2, Below.refl _ _, by omega⟩
  case ownA =>
    rintro x a' _ U V row e hg hr
    exact e
  case stop =>
    rintro D c pre W _ _ hf _
    exact hf.elim
  case assign =>
    rintro l' pre z W K hI hK
    dsimp only [chV]
    gi_wp2
    refine hK _ _ (KeepsFrom.of_grownBy (⟨rfl, rfl, rfl, Nat.le_refl _, fun _ _ _ => rfl⟩ : W.grownBy W none) (fun _ e => by cases e)) ⟨Below.refl _ _, rfl, rfl⟩ hI rfl
  case body =>
    rintro l' pre z a' W hl ⟨r, hr⟩ hI rfl hlp
    obtain ⟨⟨v, ho, hrow⟩, hfl, hlow, hle⟩ := hI
    have hx := HNeg.out _ (List.getElem_mem z.2)
    have HPn := Lib.hid (piece_number B b7 o7 l z W hx (HTb.out.below (hlow.mono (by have := HL9.out.size; omega))))
    have HS : Hid (piV (pre ++ [z]) = piV pre ++ [Value.float .f32 (l[z])]) := by unfold piV; rw [List.map_append]; exact Lib.hid rfl
    have hx' : l[z] < 2147483648 := hx
    have cF := hfl.cell
    have fF := hfl.frozen
    have lF := hfl.lt
    have cO := ho.cell
    have fO := ho.frozen
    have lO := ho.lt
    have HO1 := Lib.hid ho
    have HRw := Lib.hid hrow
    have HF1 := Lib.hid hfl
    have HLow := Lib.hid hlow
    clear hr ho hrow hfl hlow hx b1 b2 b3 b4 hbw HCh
    generalize l[z] = x at *
    have hne : ¬ (x : Int) = 2147483648 := by omega
    have hw32 : IntKind.u32.wrap (x : Int) = (x : Int) := by rw [IntKind.wrap_u32]; omega
    simp only [List.setIfInBounds_toArray, List.set_cons_zero, List.set_cons_succ]
    gi_wp2_with (refine ⟨trivial, ?_⟩; gi_at_call 63; refine (CallsIn.inRound l' (callsIn_wide.2 HPn.out)).mono ?_; rintro e w1 ⟨rfl, rfl⟩)
    have hxe : ((x : Int) == 2147483648) = false := by simpa using hne
    rw [hxe]
    obtain ⟨W1, hW1⟩ : ∃ W1, W1 = W.setCell ⟨x9.heap.size + 1, 0, none⟩ (.bool false) := ⟨_, rfl⟩
    rw [← hW1]
    have HsW : Hid (W1.heap.size = W.heap.size) := Lib.hid (by rw [hW1]; simp [World.setCell])
    have hle1 : x9.heap.size + 1 + 1 + 1 + 1 ≤ W1.heap.size := by rw [HsW.out]; exact hle
    have HO2 : Hid (Blk W1 x9.heap.size 56 #[.string nm, v]) := Lib.hid (by rw [hW1]; exact HO1.out.far (by show x9.heap.size ≠ x9.heap.size + 1; omega) _)
    have HF2 : Hid (Blk W1 (x9.heap.size + 1) 4 #[.bool false]) := Lib.hid (by rw [hW1]; exact HF1.out.set_ 0 _)
    have HRw2 : Hid (W1.ownsRow (x9.heap.size + 1 + 1 + 1 + 1) 49 1 v pre.length (piV pre)) := Lib.hid (by rw [hW1]; exact row_set HRw.out HF1.out (by decide))
    have HKf : Hid (KeepsFrom wb.heap.size W W1) := Lib.hid (by rw [hW1]; exact (KeepsOthers.setCell _ _ _).from _)
    have HKb : Hid (Below (x9.heap.size + 1) W W1) := Lib.hid (by rw [hW1]; exact (Below.refl _ _).setCell (p := ⟨x9.heap.size + 1, 0, none⟩) (Nat.le_refl _) _)
    have HKs : Hid (∀ k, k ≠ x9.heap.size + 1 → W1.heap[k]? = W.heap[k]?) := Lib.hid (fun k hk => by rw [hW1]; exact Below.heap_setCell _ _ _ _ (fun e => hk e))
    have cO := HO2.out.cell
    have fO := HO2.out.frozen
    have lO := HO2.out.lt
    have b1 := fun y W => run_f32from y W
    have mixed : Tryz.prog.follows .mixedOrders = true := by kernel_rfl
    clear hxe hW1 HO1 HF1 HRw cF fF lF
    refine wpIn_region_any mixed ?_
    change wpAnyIn _ _ _ _ _ _ _ _ _ W1.drew
    have HRw3 : Hid ((W1.drew.alloc (.cells #[.float .f32 x] 49)).ownsRow (x9.heap.size + 1 + 1 + 1 + 1) 49 1 v pre.length (piV pre)) := Lib.hid (World.ownsRow.alloc (own_kept HRw2.out ((Below.refl _ _).drew)) _)
    have HO3 : Hid (Blk (W1.drew.alloc (.cells #[.float .f32 x] 49)) x9.heap.size 56 #[.string nm, v]) := Lib.hid (HO2.out.drew.alloc _)
    have HNe : Hid (some x9.heap.size ≠ v.ownBlock) := Lib.hid (fun e' => own_ne HRw2.out HO2.out (by decide) e'.symm)
    have HFin : Hid (∀ (A5 : Option Addr) (c5 : Nat) (w5 : World), w5.ownsRow (x9.heap.size + 1 + 1 + 1 + 1) 49 1 (.slice A5 (pre.length + 1) c5) (pre.length + 1) (piV pre ++ [Value.float .f32 x]) → (W1.drew.alloc (.cells #[.float .f32 x] 49)).grownBy w5 v.ownBlock →
        KeepsFrom wb.heap.size W (w5.setCell ⟨x9.heap.size, 1, none⟩ (.slice A5 (pre.length + 1) c5)) ∧ KpC B (x9.heap.size + 1 + 1) (x9.heap.size + 1 + 1 + 1) W (w5.setCell ⟨x9.heap.size, 1, none⟩ (.slice A5 (pre.length + 1) c5)) ∧ UnI x9.heap.size wb nm l (pre ++ [z]) (w5.setCell ⟨x9.heap.size, 1, none⟩ (.slice A5 (pre.length + 1) c5))) := Lib.hid (by
      intro A5 c5 w5 ho5 hg5
      have hlt5 := HRw2.out.lt
      have hsz5 := hg5.size
      simp at hsz5
      have hb5 : Below (x9.heap.size + 1) W w5 := ((HKb.out.trans ((Below.refl (x9.heap.size + 1) W1).drew.alloc (by simp; omega) (.cells #[.float .f32 x] 49)))).grown hg5 (by simp; omega) (fun k hk => by have := (hlt5 k hk).1; omega)
      have hk5 : ∀ k, k < x9.heap.size + 1 + 1 + 1 + 1 → w5.heap[k]? = W1.heap[k]? := fun k hk => (hg5.block k (by simp; omega) (fun e => by have := (hlt5 k e.symm).1; omega)).trans (Below.heap_alloc W1.drew _ k (by simp; omega))
      have B5 : Blk w5 x9.heap.size 56 #[.string nm, v] := (hk5 _ (by omega)).trans HO2.out
      have F5 : Blk w5 (x9.heap.size + 1) 4 #[.bool false] := (hk5 _ (by omega)).trans HF2.out
      have hKO : KeepsOthers (W1.drew.alloc (.cells #[.float .f32 x] 49)) w5 := KeepsOthers.of_grownBy hg5 (fun j o' e' hj => by
        rcases HRw3.out.2 with ⟨h0, _⟩ | ⟨g2, cap2, cur, hv, hb2, hlt, _⟩
        · rw [h0] at e'; cases e'
        · rw [hv] at e'
          have : j = g2 := by simpa [Value.ownBlock] using e'.symm
          subst this
          rw [hlt] at hj
          cases hj
          rfl)
      have hKO0 : KeepsOthers W1 (W1.drew.alloc (.cells #[.float .f32 x] 49)) := (KeepsOthers.drew W1).trans (KeepsOthers.of_grownBy (World.grownBy_alloc W1.drew _ none) (fun _ _ e => by cases e))
      have hB9 : B ≤ x9.heap.size := by have := HL9.out.size; omega
      refine ⟨(HKf.out.trans ((hKO0.trans hKO).from _)).trans ((KeepsOthers.setCell _ _ _).from _), ⟨(hb5.mono (by omega)).setCell (p := ⟨x9.heap.size, 1, none⟩) hB9 _, ?_, ?_⟩, ⟨⟨_, B5.set_ 1 _, ?_⟩, F5.far (by show x9.heap.size + 1 ≠ x9.heap.size; omega) _, (HLow.out.trans (hb5.mono (by omega))).setCell (p := ⟨x9.heap.size, 1, none⟩) (Nat.le_refl _) _, ?_⟩⟩
      · rw [Below.heap_setCell _ _ _ _ (show x9.heap.size + 1 + 1 ≠ x9.heap.size by omega), hk5 _ (by omega), HKs.out _ (by omega)]
      · rw [Below.heap_setCell _ _ _ _ (show x9.heap.size + 1 + 1 + 1 ≠ x9.heap.size by omega), hk5 _ (by omega), HKs.out _ (by omega)]
      · rw [HS.out, List.length_append]
        exact row_set ho5 B5 (by decide)
      · have e5 : ∀ (V : World) (p : Addr) (u : Value), (V.setCell p u).heap.size = V.heap.size := fun V p u => by simp [World.setCell]
        rw [e5]
        omega)
    have hpl1 : pre.length ≤ 1000 := by omega
    refine wpAnyIn_ready (rs := [0, 2]) (by kernel_rfl) (by simp) ?_
    refine AllReadyIn.cons rfl (fun K hK => ?_) ?_
    · go_simp; refine hK _ _ ?_; clear hK K
      refine wpAnyIn_ready (rs := [1, 2]) (by kernel_rfl) (by simp) ?_
      refine AllReadyIn.cons rfl (fun K hK => ?_) ?_
      · go_simp; refine hK _ _ ?_; clear hK K
        refine wpAnyIn_ready (rs := [2]) (by kernel_rfl) (by simp) ?_
        refine AllReadyIn.cons rfl (fun K hK => ?_) AllReadyIn.nil
        go_simp; refine hK _ _ ?_; clear hK K
        refine wpAnyIn_ready (rs := [3]) (by kernel_rfl) (by simp) ?_
        refine AllReadyIn.cons rfl (fun K hK => ?_) AllReadyIn.nil
        go_simp; refine ⟨trivial, ?_⟩; refine hK _ _ ?_; clear hK K
        refine wpAnyIn_ready (rs := [4]) (by kernel_rfl) (by simp) ?_
        refine AllReadyIn.cons rfl (fun K hK => ?_) AllReadyIn.nil
        go_simp; refine hK _ _ ?_; clear hK K
        refine wpAnyIn_ready (rs := [5]) (by kernel_rfl) (by simp) ?_
        refine AllReadyIn.cons rfl (fun K hK => ?_) AllReadyIn.nil
        rw [if_pos (by rfl)]
        refine wpIn_append_own_at 51 49 1 4 elemF32 (.tmp 102) (.tmp 105) rfl (x9.heap.size + 1 + 1 + 1 + 1) v pre.length (piV pre) rfl HRw3.out ⟨W1.heap.size, 0, none⟩ 1 1 [.float .f32 x] rfl rfl (news_new W1.drew #[.float .f32 x] 49) (by intro u hu; simp at hu; subst hu; rfl) (by unfold maxLen; omega) (by omega) (by simp; omega) ?_
        intro v5 w5 ho5 hg5
        obtain ⟨A5', c5', rfl, _, _, _⟩ := own_form ho5
        refine hK _ _ ?_
        clear hK K
        have B5 := HO3.out.grown hg5 HNe.out
        have cO5 := B5.cell
        have fO5 := B5.frozen
        have lO5 := B5.lt
        refine wpAnyIn_ready (rs := [6]) (by kernel_rfl) (by simp) ?_
        refine AllReadyIn.cons rfl (fun K hK => ?_) AllReadyIn.nil
        go_simp; refine hK _ _ ?_; clear hK K
        refine wpAnyIn_ready (rs := [7]) (by kernel_rfl) (by simp) ?_
        refine AllReadyIn.cons rfl (fun K hK => ?_) AllReadyIn.nil
        go_simp; refine hK _ _ ?_; clear hK K
        refine wpAnyIn_done (by kernel_rfl) ?_ _
        gi_wp2
        exact HFin.out _ _ _ ho5 hg5
      refine AllReadyIn.cons rfl (fun K hK => ?_) AllReadyIn.nil
      go_simp; refine hK _ _ ?_; clear hK K
      refine wpAnyIn_ready (rs := [1, 3]) (by kernel_rfl) (by simp) ?_
      refine AllReadyIn.cons rfl (fun K hK => ?_) ?_
      · go_simp; refine hK _ _ ?_; clear hK K
        refine wpAnyIn_ready (rs := [3]) (by kernel_rfl) (by simp) ?_
        refine AllReadyIn.cons rfl (fun K hK => ?_) AllReadyIn.nil
        go_simp; refine ⟨trivial, ?_⟩; refine hK _ _ ?_; clear hK K
        refine wpAnyIn_ready (rs := [4]) (by kernel_rfl) (by simp) ?_
        refine AllReadyIn.cons rfl (fun K hK => ?_) AllReadyIn.nil
        go_simp; refine hK _ _ ?_; clear hK K
        refine wpAnyIn_ready (rs := [5]) (by kernel_rfl) (by simp) ?_
        refine AllReadyIn.cons rfl (fun K hK => ?_) AllReadyIn.nil
        rw [if_pos (by rfl)]
        refine wpIn_append_own_at 51 49 1 4 elemF32 (.tmp 102) (.tmp 105) rfl (x9.heap.size + 1 + 1 + 1 + 1) v pre.length (piV pre) rfl HRw3.out ⟨W1.heap.size, 0, none⟩ 1 1 [.float .f32 x] rfl rfl (news_new W1.drew #[.float .f32 x] 49) (by intro u hu; simp at hu; subst hu; rfl) (by unfold maxLen; omega) (by omega) (by simp; omega) ?_
        intro v5 w5 ho5 hg5
        obtain ⟨A5', c5', rfl, _, _, _⟩ := own_form ho5
        refine hK _ _ ?_
        clear hK K
        have B5 := HO3.out.grown hg5 HNe.out
        have cO5 := B5.cell
        have fO5 := B5.frozen
        have lO5 := B5.lt
        refine wpAnyIn_ready (rs := [6]) (by kernel_rfl) (by simp) ?_
        refine AllReadyIn.cons rfl (fun K hK => ?_) AllReadyIn.nil
        go_simp; refine hK _ _ ?_; clear hK K
        refine wpAnyIn_ready (rs := [7]) (by kernel_rfl) (by simp) ?_
        refine AllReadyIn.cons rfl (fun K hK => ?_) AllReadyIn.nil
        go_simp; refine hK _ _ ?_; clear hK K
        refine wpAnyIn_done (by kernel_rfl) ?_ _
        gi_wp2
        exact HFin.out _ _ _ ho5 hg5
      refine AllReadyIn.cons rfl (fun K hK => ?_) AllReadyIn.nil
      go_simp; refine ⟨trivial, ?_⟩; refine hK _ _ ?_; clear hK K
      refine wpAnyIn_ready (rs := [1, 4]) (by kernel_rfl) (by simp) ?_
      refine AllReadyIn.cons rfl (fun K hK => ?_) ?_
      · go_simp; refine hK _ _ ?_; clear hK K
        refine wpAnyIn_ready (rs := [4]) (by kernel_rfl) (by simp) ?_
        refine AllReadyIn.cons rfl (fun K hK => ?_) AllReadyIn.nil
        go_simp; refine hK _ _ ?_; clear hK K
        refine wpAnyIn_ready (rs := [5]) (by kernel_rfl) (by simp) ?_
        refine AllReadyIn.cons rfl (fun K hK => ?_) AllReadyIn.nil
        rw [if_pos (by rfl)]
        refine wpIn_append_own_at 51 49 1 4 elemF32 (.tmp 102) (.tmp 105) rfl (x9.heap.size + 1 + 1 + 1 + 1) v pre.length (piV pre) rfl HRw3.out ⟨W1.heap.size, 0, none⟩ 1 1 [.float .f32 x] rfl rfl (news_new W1.drew #[.float .f32 x] 49) (by intro u hu; simp at hu; subst hu; rfl) (by unfold maxLen; omega) (by omega) (by simp; omega) ?_
        intro v5 w5 ho5 hg5
        obtain ⟨A5', c5', rfl, _, _, _⟩ := own_form ho5
        refine hK _ _ ?_
        clear hK K
        have B5 := HO3.out.grown hg5 HNe.out
        have cO5 := B5.cell
        have fO5 := B5.frozen
        have lO5 := B5.lt
        refine wpAnyIn_ready (rs := [6]) (by kernel_rfl) (by simp) ?_
        refine AllReadyIn.cons rfl (fun K hK => ?_) AllReadyIn.nil
        go_simp; refine hK _ _ ?_; clear hK K
        refine wpAnyIn_ready (rs := [7]) (by kernel_rfl) (by simp) ?_
        refine AllReadyIn.cons rfl (fun K hK => ?_) AllReadyIn.nil
        go_simp; refine hK _ _ ?_; clear hK K
        refine wpAnyIn_done (by kernel_rfl) ?_ _
        gi_wp2
        exact HFin.out _ _ _ ho5 hg5
      refine AllReadyIn.cons rfl (fun K hK => ?_) AllReadyIn.nil
      go_simp; refine hK _ _ ?_; clear hK K
      refine wpAnyIn_ready (rs := [1]) (by kernel_rfl) (by simp) ?_
      refine AllReadyIn.cons rfl (fun K hK => ?_) AllReadyIn.nil
      go_simp; refine hK _ _ ?_; clear hK K
      refine wpAnyIn_ready (rs := [5]) (by kernel_rfl) (by simp) ?_
      refine AllReadyIn.cons rfl (fun K hK => ?_) AllReadyIn.nil
      rw [if_pos (by rfl)]
      refine wpIn_append_own_at 51 49 1 4 elemF32 (.tmp 102) (.tmp 105) rfl (x9.heap.size + 1 + 1 + 1 + 1) v pre.length (piV pre) rfl HRw3.out ⟨W1.heap.size, 0, none⟩ 1 1 [.float .f32 x] rfl rfl (news_new W1.drew #[.float .f32 x] 49) (by intro u hu; simp at hu; subst hu; rfl) (by unfold maxLen; omega) (by omega) (by simp; omega) ?_
      intro v5 w5 ho5 hg5
      obtain ⟨A5', c5', rfl, _, _, _⟩ := own_form ho5
      refine hK _ _ ?_
      clear hK K
      have B5 := HO3.out.grown hg5 HNe.out
      have cO5 := B5.cell
      have fO5 := B5.frozen
      have lO5 := B5.lt
      refine wpAnyIn_ready (rs := [6]) (by kernel_rfl) (by simp) ?_
      refine AllReadyIn.cons rfl (fun K hK => ?_) AllReadyIn.nil
      go_simp; refine hK _ _ ?_; clear hK K
      refine wpAnyIn_ready (rs := [7]) (by kernel_rfl) (by simp) ?_
      refine AllReadyIn.cons rfl (fun K hK => ?_) AllReadyIn.nil
      go_simp; refine hK _ _ ?_; clear hK K
      refine wpAnyIn_done (by kernel_rfl) ?_ _
      gi_wp2
      exact HFin.out _ _ _ ho5 hg5
    refine AllReadyIn.cons rfl (fun K hK => ?_) AllReadyIn.nil
    go_simp; refine hK _ _ ?_; clear hK K
    refine wpAnyIn_ready (rs := [0, 3]) (by kernel_rfl) (by simp) ?_
    refine AllReadyIn.cons rfl (fun K hK => ?_) ?_
    · go_simp; refine hK _ _ ?_; clear hK K
      refine wpAnyIn_ready (rs := [1, 3]) (by kernel_rfl) (by simp) ?_
      refine AllReadyIn.cons rfl (fun K hK => ?_) ?_
      · go_simp; refine hK _ _ ?_; clear hK K
        refine wpAnyIn_ready (rs := [3]) (by kernel_rfl) (by simp) ?_
        refine AllReadyIn.cons rfl (fun K hK => ?_) AllReadyIn.nil
        go_simp; refine ⟨trivial, ?_⟩; refine hK _ _ ?_; clear hK K
        refine wpAnyIn_ready (rs := [4]) (by kernel_rfl) (by simp) ?_
        refine AllReadyIn.cons rfl (fun K hK => ?_) AllReadyIn.nil
        go_simp; refine hK _ _ ?_; clear hK K
        refine wpAnyIn_ready (rs := [5]) (by kernel_rfl) (by simp) ?_
        refine AllReadyIn.cons rfl (fun K hK => ?_) AllReadyIn.nil
        rw [if_pos (by rfl)]
        refine wpIn_append_own_at 51 49 1 4 elemF32 (.tmp 102) (.tmp 105) rfl (x9.heap.size + 1 + 1 + 1 + 1) v pre.length (piV pre) rfl HRw3.out ⟨W1.heap.size, 0, none⟩ 1 1 [.float .f32 x] rfl rfl (news_new W1.drew #[.float .f32 x] 49) (by intro u hu; simp at hu; subst hu; rfl) (by unfold maxLen; omega) (by omega) (by simp; omega) ?_
        intro v5 w5 ho5 hg5
        obtain ⟨A5', c5', rfl, _, _, _⟩ := own_form ho5
        refine hK _ _ ?_
        clear hK K
        have B5 := HO3.out.grown hg5 HNe.out
        have cO5 := B5.cell
        have fO5 := B5.frozen
        have lO5 := B5.lt
        refine wpAnyIn_ready (rs := [6]) (by kernel_rfl) (by simp) ?_
        refine AllReadyIn.cons rfl (fun K hK => ?_) AllReadyIn.nil
        go_simp; refine hK _ _ ?_; clear hK K
        refine wpAnyIn_ready (rs := [7]) (by kernel_rfl) (by simp) ?_
        refine AllReadyIn.cons rfl (fun K hK => ?_) AllReadyIn.nil
        go_simp; refine hK _ _ ?_; clear hK K
        refine wpAnyIn_done (by kernel_rfl) ?_ _
        gi_wp2
        exact HFin.out _ _ _ ho5 hg5
      refine AllReadyIn.cons rfl (fun K hK => ?_) AllReadyIn.nil
      go_simp; refine ⟨trivial, ?_⟩; refine hK _ _ ?_; clear hK K
      refine wpAnyIn_ready (rs := [1, 4]) (by kernel_rfl) (by simp) ?_
      refine AllReadyIn.cons rfl (fun K hK => ?_) ?_
      · go_simp; refine hK _ _ ?_; clear hK K
        refine wpAnyIn_ready (rs := [4]) (by kernel_rfl) (by simp) ?_
        refine AllReadyIn.cons rfl (fun K hK => ?_) AllReadyIn.nil
        go_simp; refine hK _ _ ?_; clear hK K
        refine wpAnyIn_ready (rs := [5]) (by kernel_rfl) (by simp) ?_
        refine AllReadyIn.cons rfl (fun K hK => ?_) AllReadyIn.nil
        rw [if_pos (by rfl)]
        refine wpIn_append_own_at 51 49 1 4 elemF32 (.tmp 102) (.tmp 105) rfl (x9.heap.size + 1 + 1 + 1 + 1) v pre.length (piV pre) rfl HRw3.out ⟨W1.heap.size, 0, none⟩ 1 1 [.float .f32 x] rfl rfl (news_new W1.drew #[.float .f32 x] 49) (by intro u hu; simp at hu; subst hu; rfl) (by unfold maxLen; omega) (by omega) (by simp; omega) ?_
        intro v5 w5 ho5 hg5
        obtain ⟨A5', c5', rfl, _, _, _⟩ := own_form ho5
        refine hK _ _ ?_
        clear hK K
        have B5 := HO3.out.grown hg5 HNe.out
        have cO5 := B5.cell
        have fO5 := B5.frozen
        have lO5 := B5.lt
        refine wpAnyIn_ready (rs := [6]) (by kernel_rfl) (by simp) ?_
        refine AllReadyIn.cons rfl (fun K hK => ?_) AllReadyIn.nil
        go_simp; refine hK _ _ ?_; clear hK K
        refine wpAnyIn_ready (rs := [7]) (by kernel_rfl) (by simp) ?_
        refine AllReadyIn.cons rfl (fun K hK => ?_) AllReadyIn.nil
        go_simp; refine hK _ _ ?_; clear hK K
        refine wpAnyIn_done (by kernel_rfl) ?_ _
        gi_wp2
        exact HFin.out _ _ _ ho5 hg5
      refine AllReadyIn.cons rfl (fun K hK => ?_) AllReadyIn.nil
      go_simp; refine hK _ _ ?_; clear hK K
      refine wpAnyIn_ready (rs := [1]) (by kernel_rfl) (by simp) ?_
      refine AllReadyIn.cons rfl (fun K hK => ?_) AllReadyIn.nil
      go_simp; refine hK _ _ ?_; clear hK K
      refine wpAnyIn_ready (rs := [5]) (by kernel_rfl) (by simp) ?_
      refine AllReadyIn.cons rfl (fun K hK => ?_) AllReadyIn.nil
      rw [if_pos (by rfl)]
      refine wpIn_append_own_at 51 49 1 4 elemF32 (.tmp 102) (.tmp 105) rfl (x9.heap.size + 1 + 1 + 1 + 1) v pre.length (piV pre) rfl HRw3.out ⟨W1.heap.size, 0, none⟩ 1 1 [.float .f32 x] rfl rfl (news_new W1.drew #[.float .f32 x] 49) (by intro u hu; simp at hu; subst hu; rfl) (by unfold maxLen; omega) (by omega) (by simp; omega) ?_
      intro v5 w5 ho5 hg5
      obtain ⟨A5', c5', rfl, _, _, _⟩ := own_form ho5
      refine hK _ _ ?_
      clear hK K
      have B5 := HO3.out.grown hg5 HNe.out
      have cO5 := B5.cell
      have fO5 := B5.frozen
      have lO5 := B5.lt
      refine wpAnyIn_ready (rs := [6]) (by kernel_rfl) (by simp) ?_
      refine AllReadyIn.cons rfl (fun K hK => ?_) AllReadyIn.nil
      go_simp; refine hK _ _ ?_; clear hK K
      refine wpAnyIn_ready (rs := [7]) (by kernel_rfl) (by simp) ?_
      refine AllReadyIn.cons rfl (fun K hK => ?_) AllReadyIn.nil
      go_simp; refine hK _ _ ?_; clear hK K
      refine wpAnyIn_done (by kernel_rfl) ?_ _
      gi_wp2
      exact HFin.out _ _ _ ho5 hg5
    refine AllReadyIn.cons rfl (fun K hK => ?_) AllReadyIn.nil
    go_simp; refine ⟨trivial, ?_⟩; refine hK _ _ ?_; clear hK K
    refine wpAnyIn_ready (rs := [0, 4]) (by kernel_rfl) (by simp) ?_
    refine AllReadyIn.cons rfl (fun K hK => ?_) ?_
    · go_simp; refine hK _ _ ?_; clear hK K
      refine wpAnyIn_ready (rs := [1, 4]) (by kernel_rfl) (by simp) ?_
      refine AllReadyIn.cons rfl (fun K hK => ?_) ?_
      · go_simp; refine hK _ _ ?_; clear hK K
        refine wpAnyIn_ready (rs := [4]) (by kernel_rfl) (by simp) ?_
        refine AllReadyIn.cons rfl (fun K hK => ?_) AllReadyIn.nil
        go_simp; refine hK _ _ ?_; clear hK K
        refine wpAnyIn_ready (rs := [5]) (by kernel_rfl) (by simp) ?_
        refine AllReadyIn.cons rfl (fun K hK => ?_) AllReadyIn.nil
        rw [if_pos (by rfl)]
        refine wpIn_append_own_at 51 49 1 4 elemF32 (.tmp 102) (.tmp 105) rfl (x9.heap.size + 1 + 1 + 1 + 1) v pre.length (piV pre) rfl HRw3.out ⟨W1.heap.size, 0, none⟩ 1 1 [.float .f32 x] rfl rfl (news_new W1.drew #[.float .f32 x] 49) (by intro u hu; simp at hu; subst hu; rfl) (by unfold maxLen; omega) (by omega) (by simp; omega) ?_
        intro v5 w5 ho5 hg5
        obtain ⟨A5', c5', rfl, _, _, _⟩ := own_form ho5
        refine hK _ _ ?_
        clear hK K
        have B5 := HO3.out.grown hg5 HNe.out
        have cO5 := B5.cell
        have fO5 := B5.frozen
        have lO5 := B5.lt
        refine wpAnyIn_ready (rs := [6]) (by kernel_rfl) (by simp) ?_
        refine AllReadyIn.cons rfl (fun K hK => ?_) AllReadyIn.nil
        go_simp; refine hK _ _ ?_; clear hK K
        refine wpAnyIn_ready (rs := [7]) (by kernel_rfl) (by simp) ?_
        refine AllReadyIn.cons rfl (fun K hK => ?_) AllReadyIn.nil
        go_simp; refine hK _ _ ?_; clear hK K
        refine wpAnyIn_done (by kernel_rfl) ?_ _
        gi_wp2
        exact HFin.out _ _ _ ho5 hg5
      refine AllReadyIn.cons rfl (fun K hK => ?_) AllReadyIn.nil
      go_simp; refine hK _ _ ?_; clear hK K
      refine wpAnyIn_ready (rs := [1]) (by kernel_rfl) (by simp) ?_
      refine AllReadyIn.cons rfl (fun K hK => ?_) AllReadyIn.nil
      go_simp; refine hK _ _ ?_; clear hK K
      refine wpAnyIn_ready (rs := [5]) (by kernel_rfl) (by simp) ?_
      refine AllReadyIn.cons rfl (fun K hK => ?_) AllReadyIn.nil
      rw [if_pos (by rfl)]
      refine wpIn_append_own_at 51 49 1 4 elemF32 (.tmp 102) (.tmp 105) rfl (x9.heap.size + 1 + 1 + 1 + 1) v pre.length (piV pre) rfl HRw3.out ⟨W1.heap.size, 0, none⟩ 1 1 [.float .f32 x] rfl rfl (news_new W1.drew #[.float .f32 x] 49) (by intro u hu; simp at hu; subst hu; rfl) (by unfold maxLen; omega) (by omega) (by simp; omega) ?_
      intro v5 w5 ho5 hg5
      obtain ⟨A5', c5', rfl, _, _, _⟩ := own_form ho5
      refine hK _ _ ?_
      clear hK K
      have B5 := HO3.out.grown hg5 HNe.out
      have cO5 := B5.cell
      have fO5 := B5.frozen
      have lO5 := B5.lt
      refine wpAnyIn_ready (rs := [6]) (by kernel_rfl) (by simp) ?_
      refine AllReadyIn.cons rfl (fun K hK => ?_) AllReadyIn.nil
      go_simp; refine hK _ _ ?_; clear hK K
      refine wpAnyIn_ready (rs := [7]) (by kernel_rfl) (by simp) ?_
      refine AllReadyIn.cons rfl (fun K hK => ?_) AllReadyIn.nil
      go_simp; refine hK _ _ ?_; clear hK K
      refine wpAnyIn_done (by kernel_rfl) ?_ _
      gi_wp2
      exact HFin.out _ _ _ ho5 hg5
    refine AllReadyIn.cons rfl (fun K hK => ?_) AllReadyIn.nil
    go_simp; refine hK _ _ ?_; clear hK K
    refine wpAnyIn_ready (rs := [0]) (by kernel_rfl) (by simp) ?_
    refine AllReadyIn.cons rfl (fun K hK => ?_) AllReadyIn.nil
    go_simp; refine hK _ _ ?_; clear hK K
    refine wpAnyIn_ready (rs := [1]) (by kernel_rfl) (by simp) ?_
    refine AllReadyIn.cons rfl (fun K hK => ?_) AllReadyIn.nil
    go_simp; refine hK _ _ ?_; clear hK K
    refine wpAnyIn_ready (rs := [5]) (by kernel_rfl) (by simp) ?_
    refine AllReadyIn.cons rfl (fun K hK => ?_) AllReadyIn.nil
    rw [if_pos (by rfl)]
    refine wpIn_append_own_at 51 49 1 4 elemF32 (.tmp 102) (.tmp 105) rfl (x9.heap.size + 1 + 1 + 1 + 1) v pre.length (piV pre) rfl HRw3.out ⟨W1.heap.size, 0, none⟩ 1 1 [.float .f32 x] rfl rfl (news_new W1.drew #[.float .f32 x] 49) (by intro u hu; simp at hu; subst hu; rfl) (by unfold maxLen; omega) (by omega) (by simp; omega) ?_
    intro v5 w5 ho5 hg5
    obtain ⟨A5', c5', rfl, _, _, _⟩ := own_form ho5
    refine hK _ _ ?_
    clear hK K
    have B5 := HO3.out.grown hg5 HNe.out
    have cO5 := B5.cell
    have fO5 := B5.frozen
    have lO5 := B5.lt
    refine wpAnyIn_ready (rs := [6]) (by kernel_rfl) (by simp) ?_
    refine AllReadyIn.cons rfl (fun K hK => ?_) AllReadyIn.nil
    go_simp; refine hK _ _ ?_; clear hK K
    refine wpAnyIn_ready (rs := [7]) (by kernel_rfl) (by simp) ?_
    refine AllReadyIn.cons rfl (fun K hK => ?_) AllReadyIn.nil
    go_simp; refine hK _ _ ?_; clear hK K
    refine wpAnyIn_done (by kernel_rfl) ?_ _
    gi_wp2
    exact HFin.out _ _ _ ho5 hg5
  case done =>
    rintro D ys W hD rfl ⟨⟨v, ho, hrow⟩, hfl, hlow, hle⟩ hK
    have e1 : piV (fTo l.length l.length) = l.map (Value.float .f32) := piV_all l
    rw [e1, fTo_len _ (Nat.le_refl _)] at hrow
    obtain ⟨Az, cz2, rfl, _, _, hrd⟩ := own_form hrow
    have HLW : Hid (Below w.heap.size w W) := Lib.hid ((HL9.out.trans (hbw.mono (by omega))).trans (hlow.mono (by omega)))
    have hwW := HLW.out.size
    have bAW : Blk W w.heap.size 56 #[.string ⟨#[]⟩, .slice none 0 0] := (bA9.kept hbw).below hlow (by omega)
    have HCR := Lib.hid (fun W' (hW : Below W.heap.size W W') => CheckRecord_ok W.heap.size Az l.length cz2 nm l W' HOk.out (hrd.below hW) hW.size)
    have HP := Lib.hid (fun (q : Bool) k W => pwhen_any q k W)
    have HO1 := Lib.hid ho
    have HF1 := Lib.hid hfl
    have HBA := Lib.hid bAW
    have HRw := Lib.hid hrow
    have HKk := Lib.hid hK
    have cO := ho.cell
    have lO := ho.lt
    have cF := hfl.cell
    have lF := hfl.lt
    clear ho hrow hfl hlow hK e1 hrd bAW HT9 HTb HCh b1 b2 b3 b4
    go_wp2
    (refine wp_region_calm [] [0, 1, 2, 3] 3 (by kernel_rfl) rfl (by kernel_rfl) (by kernel_rfl) (by kernel_rfl) ?_; simp only [pickB, List.filterMap_cons, List.filterMap_nil, List.getElem?_toArray, List.getElem?_cons_zero, List.getElem?_cons_succ]; (repeat (first | ((first | (with_reducible refine quietL_plain rfl (fun K hK => ?_)) | (with_reducible refine quietL_want (by with_unfolding_all rfl) (fun K hK => ?_))); (apply Exists.intro; refine ⟨fun wx hx => ?_, ?_⟩; (· (have hcx := ifs_ex hx); simp [go_sem, *, ↓IntWalk.iteOmega] <;> (first | rfl | exact ⟨rfl, rfl⟩ | (first | (with_reducible exact calls_B (HCR.out _ (Ex.low hx))) | (with_reducible exact calls_B (calls_below (HP.out _ _ _)))))); (simp only [Act.put, List.setIfInBounds_toArray, List.set_cons_zero, List.set_cons_succ]; refine hK _ ?_; clear hK K))) | ((with_reducible refine quietL_skip (by with_unfolding_all rfl) ?_); simp only [Act.put, List.setIfInBounds_toArray, List.set_cons_zero, List.set_cons_succ]))); refine quietL_nil ?_)
    (refine anyB_one (i := 4) (by kernel_rfl) rfl rfl ?_; intro w4 hb4 K hK; have hs4 := hb4.size; (try simp at hs4); go_wp2; refine ⟨xs_, ?_⟩)
    (refine anyB_one (i := 5) (by kernel_rfl) rfl rfl ?_; intro w5 hb5 K hK; obtain ⟨hc5, hf5⟩ := ifs_of hb5; have hs5 := hb5.size; (try simp at hs5); go_wp2_with fail; refine (pfirst_any (w4.heap.size + 1) _ 2 2 [0, 0] _ ((by simpa using Reads.new (size := 1) w4 (([0, 0]).map (.int .i64)).toArray 31 2 rfl : Reads (w4.alloc (.cells (([0, 0]).map (.int .i64)).toArray 31)) (w4.heap.size + 1) 1 (some ⟨w4.heap.size, 0, none⟩) 2 (([0, 0]).map (.int .i64))).below (hb5.mono (by simp))) (by unfold maxLen; decide)).mono ?_; rintro e w5' ⟨rfl, rfl⟩; go_wp2; refine ⟨xs_, ?_⟩)
    (refine anyB_one (i := 6) (by kernel_rfl) rfl rfl ?_; intro w6 hb6 K hK; have hs6 := hb6.size; (try simp at hs6); go_wp2; refine ⟨xs_, ?_⟩)
    (refine anyB_end (by kernel_rfl) ?_; intro w7 hb7; have hs7 := hb7.size; (try simp at hs7); simp only [Calm])
    have hb7' : Below W.heap.size W w7 := bl_
    have HB7 := Lib.hid hb7'
    have HO7 := Lib.hid (HO1.out.kept hb7')
    have HA7 := Lib.hid (HBA.out.kept hb7')
    have cO7 := HO7.out.cell
    have lO7 := HO7.out.lt
    have cA7 := HA7.out.cell
    have fA7 := HA7.out.frozen
    have lA7 := HA7.out.lt
    clear cO lO cF lF HCR HP
    go_wp2
    have HA8 : Hid (Blk ((w7.setCell ⟨w.heap.size, 0, none⟩ (.string nm)).setCell ⟨w.heap.size, 1, none⟩ (.slice Az l.length cz2)) w.heap.size 56 #[.string nm, .slice Az l.length cz2]) := Lib.hid ((HA7.out.set_ 0 _).set_ 1 _)
    have HR8 : Hid (((w7.setCell ⟨w.heap.size, 0, none⟩ (.string nm)).setCell ⟨w.heap.size, 1, none⟩ (.slice Az l.length cz2)).ownsRow (x9.heap.size + 1 + 1 + 1 + 1) 49 1 (.slice Az l.length cz2) l.length (l.map (Value.float .f32))) := Lib.hid (row_set (row_set (own_kept HRw.out HB7.out) HA7.out (by decide)) (HA7.out.set_ 0 _) (by decide))
    have HL8 : Hid (Below w.heap.size w ((w7.setCell ⟨w.heap.size, 0, none⟩ (.string nm)).setCell ⟨w.heap.size, 1, none⟩ (.slice Az l.length cz2))) := Lib.hid (HLW.out.trans (((HB7.out.mono hwW).setCell (p := ⟨w.heap.size, 0, none⟩) (Nat.le_refl _) _).setCell (p := ⟨w.heap.size, 1, none⟩) (Nat.le_refl _) _))
    have hwb := hbw.size
    have hDw : w.heap.size ≠ D := by have := HL9.out.size; omega
    have HK8 : Hid (((w7.setCell ⟨w.heap.size, 0, none⟩ (.string nm)).setCell ⟨w.heap.size, 1, none⟩ (.slice Az l.length cz2)).heap[D]? = some (.deferred (some []))) := Lib.hid (by
      rw [Below.heap_setCell _ _ _ _ (fun e => hDw e.symm), Below.heap_setCell _ _ _ _ (fun e => hDw e.symm), HB7.out.block D (Array.getElem?_eq_some_iff.1 HKk.out).1]
      exact HKk.out)
    generalize ((w7.setCell ⟨w.heap.size, 0, none⟩ (.string nm)).setCell ⟨w.heap.size, 1, none⟩ (.slice Az l.length cz2)) = W8 at *
    refine leaves_marks w.heap.size [D] W8 (by simp) (fun E hE => by simp at hE; subst hE; exact HK8.out) (fun E hE => by simp at hE; subst hE; have := HL9.out.size; omega) fun w' hw' hkk hs => ?_
    have hgr : W8.grownBy w' (some D) := ⟨hw'.os, hw'.tape, hw'.output, hw'.size, fun k _ hne => hkk k (by simp; intro e; exact hne (by rw [e]))⟩
    exact ⟨_, res_rec rfl rfl rfl ((hkk w.heap.size (by simpa using hDw)).trans HA8.out), Az, cz2, rfl, row_baseR (row_grown HR8.out hgr (fun r e c hb => by
      cases e
      rw [show W8.heap[D]? = _ from hb] at HK8
      cases HK8.out)) (by have := HL9.out.size; omega), HL8.out.trans hw'⟩
end Go.Proofs.YtafnebfchhmgcaaGreat
