/- Joined texts: Jm CL. -/
import Derived.Shelf.Strings.OnBuilder
import Derived.Shelf.Strconv.Itoa0
import Derived.Shelf.Strconv.Itoa1
import Derived.Shelf.LaysM
import Derived.Shelf.Strconv.Itoa2
import Derived.Shelf.Strconv.Itoa3
import Derived.Test.YtjanojmgnpfjeaaGreatDoorProg
import Derived.Lib.ItoaLen
import Derived.Test.YtjanojmgnpfjeaaGreatDoorCK
/-
  DERIVED: THE SHELF's CONTRACTS AT THIS DUMP, IN PLAIN WORDS (tools/lay-plain.mjs out of 'TryzShelf.lean', which tools/lay-shelf.mjs wrote): THE SAME DECLARATIONS UNDER THE SAME NAMES: 'import', 'namespace', 'open', 'def', 'theorem' AND NOTHING ELSE: no command of the shelf's: FOR A HAND-IN. Each laying: the table of numbers ('.._ren') and one theorem, a field a fact of the dump's own or the kernel's comparison; each contract: ONE APPLICATION.
-/
namespace Go.Proofs
open Go.Shelf
def Tryz.lays156_ren : Go.Shelf.Ren := ⟨fun | 156 => 80 | 165 => 132 | 166 => 133 | 169 => 134 | 240 => 179 | 241 => 180 | 276 => 207 | 277 => 208 | n => n, fun | 31 => 60 | 9 => 9 | 3 => 3 | 4 => 4 | 0 => 0 | 20 => 20 | 72 => 188 | 76 => 192 | 70 => 185 | 37 => 186 | 75 => 191 | 127 => 236 | 164 => 251 | 5 => 5 | 80 => 133 | n => n, fun | n => n⟩
theorem Tryz.lays156 : Go.Proofs.Lays.n156 Tryz.prog Tryz.lays156_ren := {
  mixed := by kernel_rfl
  f156 := Tryz.func80.trans (congrArg some (by kernel_rfl))
  f165 := Tryz.func132.trans (congrArg some (by kernel_rfl))
  f166 := Tryz.func133.trans (congrArg some (by kernel_rfl))
  f169 := Tryz.func134.trans (congrArg some (by kernel_rfl))
  f240 := Tryz.func179.trans (congrArg some (by kernel_rfl))
  f241 := Tryz.func180.trans (congrArg some (by kernel_rfl))
  f276 := Tryz.func207.trans (congrArg some (by kernel_rfl))
  f277 := Tryz.func208.trans (congrArg some (by kernel_rfl))
  t0 := Tryz.underlying0
  a0 := Tryz.isAgg0
  z0 := Tryz.sizeOf0
  v0 := Tryz.zeroValue0
  t3 := Tryz.underlying3
  a3 := Tryz.isAgg3
  z3 := Tryz.sizeOf3
  v3 := Tryz.zeroValue3
  t4 := Tryz.underlying4
  a4 := Tryz.isAgg4
  z4 := Tryz.sizeOf4
  v4 := Tryz.zeroValue4
  t9 := Tryz.underlying9
  a9 := Tryz.isAgg9
  z9 := Tryz.sizeOf9
  v9 := Tryz.zeroValue9
  t20 := Tryz.underlying20
  a20 := Tryz.isAgg20
  z20 := Tryz.sizeOf20
  v20 := Tryz.zeroValue20
  t31 := Tryz.underlying60
  a31 := Tryz.isAgg60
  z31 := Tryz.sizeOf60
  v31 := Tryz.zeroValue60
  t37 := Tryz.underlying186
  a37 := Tryz.isAgg186
  z37 := Tryz.sizeOf186
  v37 := Tryz.zeroValue186
  t70 := Tryz.underlying185
  a70 := Tryz.isAgg185
  z70 := Tryz.sizeOf185
  v70 := Tryz.zeroValue185
  t72 := Tryz.underlying188
  a72 := Tryz.isAgg188
  z72 := Tryz.sizeOf188
  v72 := Tryz.zeroValue188
  t75 := Tryz.underlying191
  a75 := Tryz.isAgg191
  z75 := Tryz.sizeOf191
  v75 := Tryz.zeroValue191
  t76 := Tryz.underlying192
  a76 := Tryz.isAgg192
  z76 := Tryz.sizeOf192
  v76 := Tryz.zeroValue192
  t127 := Tryz.underlying236
  a127 := Tryz.isAgg236
  z127 := Tryz.sizeOf236
  v127 := Tryz.zeroValue236
  t164 := Tryz.underlying251
  a164 := Tryz.isAgg251
  z164 := Tryz.sizeOf251
  v164 := Tryz.zeroValue251 }
theorem Tryz.Builder_Extra_156 : Builder.Extra Tryz.prog Tryz.lays156_ren := {
  sizeBuilder := by kernel_rfl
  liesBuilder := by kernel_rfl
  t5 := Tryz.underlying5
  a5 := Tryz.isAgg5
  z5 := Tryz.sizeOf5
  v5 := Tryz.zeroValue5
  infoByte := by kernel_rfl
  cellsByte := by kernel_rfl
  sizeByte := by kernel_rfl
  neB5 := by decide }
open Go.RowKit in
/-- No element: the empty string; the world is as it was. (Whatever the slice's address and capacity: a nil slice too.) (LAID: no walk: one application.) -/
theorem Tryz.strings_Join_none (a : Option Addr) (c : Nat) (sep : ByteArray) (w : World) :
    Calls Tryz.prog 80 #[.slice a 0 c, .string sep] w fun e w' => e = .returned (.string ⟨#[]⟩) ∧ w' = w := Any.strings_Join_none Tryz.lays156 Tryz.Builder_Extra_156 a c sep w
open Go.RowKit in
/-- strings.Join: "Join concatenates the elements of its first argument to create a single string. The separator string sep is placed between elements in the resulting string.": HOWEVER MANY ELEMENTS. Below the heap's end the world is as it was. (LAID: no walk: one application.) -/
theorem Tryz.strings_Join (bk o c : Nat) (xs : List ByteArray) (sep : ByteArray) (w : World) (hcells : ∀ (j : Nat) x, xs[j]? = some x → w.cell? ⟨bk, o + j, none⟩ = some (.string x)) (hbk : bk < w.heap.size) (hN : xs.length ≤ 140737488355328) (hcap : xs.length ≤ c) (hlen : (Lib.join (xs.map (·.data.toList)) sep.data.toList).length ≤ 140737488355328) :
    Calls Tryz.prog 80 #[.slice (some ⟨bk, o, none⟩) xs.length c, .string sep] w fun e w' => e = .returned (.string ⟨(Lib.join (xs.map (·.data.toList)) sep.data.toList).toArray⟩) ∧ Below w.heap.size w w' := Any.strings_Join Tryz.lays156 Tryz.Builder_Extra_156 bk o c xs sep w hcells hbk hN hcap hlen
def Tryz.laysM171_ren : Go.Shelf.Ren := ⟨fun | 171 => 79 | 243 => 131 | 246 => 178 | 283 => 203 | 284 => 204 | 285 => 205 | 286 => 206 | 129 => 225 | 317 => 232 | 318 => 233 | 319 => 234 | 320 => 235 | 337 => 249 | 338 => 250 | n => n, fun | 3 => 3 | 9 => 9 | 2 => 2 | 4 => 4 | 171 => 247 | 0 => 0 | 53 => 222 | 37 => 186 | 5 => 5 | 173 => 249 | 212 => 272 | 51 => 220 | 20 => 20 | 213 => 273 | 46 => 161 | 232 => 288 | 233 => 289 | n => n, fun | 17 => 1 | 18 => 3 | 19 => 4 | n => n⟩
theorem Tryz.laysM171 : Go.Proofs.LaysM.n171 Tryz.prog Tryz.laysM171_ren := {
  mixed := by kernel_rfl
  f129 := Tryz.func225.trans (congrArg some (by kernel_rfl))
  f171 := Tryz.func79.trans (congrArg some (by kernel_rfl))
  f243 := Tryz.func131.trans (congrArg some (by kernel_rfl))
  f246 := Tryz.func178.trans (congrArg some (by kernel_rfl))
  f283 := Tryz.func203.trans (congrArg some (by kernel_rfl))
  f284 := Tryz.func204.trans (congrArg some (by kernel_rfl))
  f285 := Tryz.func205.trans (congrArg some (by kernel_rfl))
  f286 := Tryz.func206.trans (congrArg some (by kernel_rfl))
  f317 := Tryz.func232.trans (congrArg some (by kernel_rfl))
  f318 := Tryz.func233.trans (congrArg some (by kernel_rfl))
  f319 := Tryz.func234.trans (congrArg some (by kernel_rfl))
  f320 := Tryz.func235.trans (congrArg some (by kernel_rfl))
  f337 := Tryz.func249.trans (congrArg some (by kernel_rfl))
  f338 := Tryz.func250.trans (congrArg some (by kernel_rfl))
  t0 := Tryz.underlying0
  a0 := Tryz.isAgg0
  z0 := Tryz.sizeOf0
  v0 := Tryz.zeroValue0
  t2 := Tryz.underlying2
  a2 := Tryz.isAgg2
  z2 := Tryz.sizeOf2
  v2 := Tryz.zeroValue2
  t3 := Tryz.underlying3
  a3 := Tryz.isAgg3
  z3 := Tryz.sizeOf3
  v3 := Tryz.zeroValue3
  t4 := Tryz.underlying4
  a4 := Tryz.isAgg4
  z4 := Tryz.sizeOf4
  v4 := Tryz.zeroValue4
  t5 := Tryz.underlying5
  a5 := Tryz.isAgg5
  z5 := Tryz.sizeOf5
  v5 := Tryz.zeroValue5
  t9 := Tryz.underlying9
  a9 := Tryz.isAgg9
  z9 := Tryz.sizeOf9
  v9 := Tryz.zeroValue9
  t20 := Tryz.underlying20
  a20 := Tryz.isAgg20
  z20 := Tryz.sizeOf20
  v20 := Tryz.zeroValue20
  t37 := Tryz.underlying186
  a37 := Tryz.isAgg186
  z37 := Tryz.sizeOf186
  v37 := Tryz.zeroValue186
  t46 := Tryz.underlying161
  a46 := Tryz.isAgg161
  z46 := Tryz.sizeOf161
  v46 := Tryz.zeroValue161
  t51 := Tryz.underlying220
  a51 := Tryz.isAgg220
  z51 := Tryz.sizeOf220
  v51 := Tryz.zeroValue220
  t53 := Tryz.underlying222
  a53 := Tryz.isAgg222
  z53 := Tryz.sizeOf222
  v53 := Tryz.zeroValue222
  t171 := Tryz.underlying247
  a171 := Tryz.isAgg247
  z171 := Tryz.sizeOf247
  v171 := Tryz.zeroValue247
  t173 := Tryz.underlying249
  a173 := Tryz.isAgg249
  z173 := Tryz.sizeOf249
  v173 := Tryz.zeroValue249
  t212 := Tryz.underlying272
  a212 := Tryz.isAgg272
  z212 := Tryz.sizeOf272
  v212 := Tryz.zeroValue272
  t213 := Tryz.underlying273
  a213 := Tryz.isAgg273
  z213 := Tryz.sizeOf273
  t232 := Tryz.underlying288
  a232 := Tryz.isAgg288
  z232 := Tryz.sizeOf288
  v232 := Tryz.zeroValue288
  t233 := Tryz.underlying289
  a233 := Tryz.isAgg289
  z233 := Tryz.sizeOf289
  v233 := Tryz.zeroValue289
  g17 := by kernel_rfl
  g18 := by kernel_rfl
  g19 := by kernel_rfl
  i0 := by kernel_rfl
  i2 := by kernel_rfl
  i3 := by kernel_rfl
  i4 := by kernel_rfl
  i5 := by kernel_rfl
  i9 := by kernel_rfl
  i20 := by kernel_rfl
  i37 := by kernel_rfl
  i46 := by kernel_rfl
  i51 := by kernel_rfl
  i53 := by kernel_rfl
  i171 := by kernel_rfl
  i173 := by kernel_rfl
  i212 := by kernel_rfl
  i232 := by kernel_rfl
  i233 := by kernel_rfl
  m17 := by kernel_rfl
  m18 := by kernel_rfl
  m19 := by kernel_rfl }
open Go.RowKit Go.Sort Go.Lib in
/-- strconv.Itoa: "Itoa is equivalent to FormatInt(int64(i), 10).": i's DECIMAL NUMERAL ('Lib.itoa': a '-' where i is negative, then the digits), FOR EVERY int. The world behind the call: the world before it, new blocks behind the heap (the library's 'var a [24]byte'), draws. (LAID: no walk: one application.) -/
theorem Tryz.strconv_Itoa (n : Int) (h0 : -9223372036854775808 ≤ n) (h1 : n ≤ 9223372036854775807) (w : World) (htab : Lib.TabIs Tryz.prog w "internal/strconv.uint64pow10" .u64 Lib.pow10Tab) :
    Calls Tryz.prog 79 #[.int .i64 n] w fun e w' => e = .returned (.string ⟨(Lib.itoa n).toArray⟩) ∧ ∃ k os, w' = grow (w.drewN k) os := Any.strconv_Itoa Tryz.laysM171 n h0 h1 w htab
end Go.Proofs
/- Print of the program. -/
namespace Go.Proofs.YtjanojmgnpfjeaaGreatDoor
open Go Go.RowKit Go.Sort Go.Shelf
set_option linter.unusedSimpArgs false
set_option linter.unusedVariables false
attribute [local go_sem] cell_if frozen_if grow_cell
/-- The table that a numeral is printed by. -/
def TabT (w : World) : Prop := Lib.TabIs Tryz.prog w "internal/strconv.uint64pow10" .u64 Lib.pow10Tab
theorem TabT.kept {w w' : World} (h : TabT w) (hb : Below w.heap.size w w') : TabT w' := by
  unfold TabT Lib.TabIs World.var? at h ⊢
  cases hg : Tryz.prog.globalNamed "internal/strconv.uint64pow10" with
  | none => rw [hg] at h; cases h
  | some g =>
    rw [hg] at h
    simp only [Option.bind_some] at h ⊢
    have hlt : g < w.heap.size := by
      rcases Nat.lt_or_ge g w.heap.size with h' | h'
      · exact h'
      · rw [Array.getElem?_eq_none h'] at h; cases h
    rw [hb.block g hlt]
    exact h
def itoB (n : Int) : ByteArray := ⟨(Lib.itoa n).toArray⟩
theorem itoB_size {n : Int} (h0 : -9223372036854775808 ≤ n) (h1 : n ≤ 9223372036854775807) : (itoB n).size ≤ 21 := by
  have := Lib.itoa_length_le n h0 h1
  unfold itoB
  simpa [ByteArray.size] using this
theorem Itoa_any (n : Int) (w : World) (h0 : -9223372036854775808 ≤ n) (h1 : n ≤ 9223372036854775807) (hT : TabT w) : Calls Tryz.prog 79 #[.int .i64 n] w fun e w' => e = .returned (.string (itoB n)) ∧ Below w.heap.size w w' := by
  refine (Tryz.strconv_Itoa n h0 h1 w hT).mono ?_
  rintro e w' ⟨rfl, k, os, rfl⟩
  exact ⟨rfl, below_grown w k os⟩
def stB (x : Md) : ByteArray := if x.on then ⟨#[111, 110]⟩ else if x.by_ then ⟨#[98, 121, 112, 97, 115, 115, 101, 100]⟩ else ⟨#[111, 102, 102]⟩
def textB (x : Md) : ByteArray := ((((((⟨#[109, 111, 100, 117, 108, 101, 32]⟩ : ByteArray) ++ x.n) ++ ⟨#[32]⟩) ++ itoB x.q) ++ ⟨#[32]⟩) ++ stB x) ++ ⟨#[10]⟩
set_option maxRecDepth 100000 in
theorem mtext_any (x : Md) (w : World) (hT : TabT w) (hn : x.n.size ≤ 100000) (hq : 0 ≤ x.q ∧ x.q ≤ 16384) : Calls Tryz.prog 82 #[.agg #[.string x.n, .int .i64 x.q, .bool x.on, .bool x.by_]] w fun e w' => e = .returned (.string (textB x)) ∧ Below w.heap.size w w' := by
  obtain ⟨xn, xq, xo, xb⟩ := x
  dsimp only at hn hq
  have hsz := itoB_size (n := xq) (by omega) (by omega)
  have HI := Lib.hid (fun W (hW : Below w.heap.size w W) => Itoa_any xq W (by omega) (by omega) (hT.kept hW))
  have HV : Hid (textB ⟨xn, xq, xo, xb⟩ = ((((((⟨#[109, 111, 100, 117, 108, 101, 32]⟩ : ByteArray) ++ xn) ++ ⟨#[32]⟩) ++ itoB xq) ++ ⟨#[32]⟩) ++ stB ⟨xn, xq, xo, xb⟩) ++ ⟨#[10]⟩) := Lib.hid rfl
  generalize itoB xq = sq at *
  cases xo with
  | true =>
    go_enter Tryz.func82, Tryz.ntmps82
    go_wp2_with fail
    refine wp_world ?_
    intro W1 hW1
    have hb1 : Below w.heap.size w W1 := by rw [hW1]; exact bl_
    have bM : Blk W1 w.heap.size 107 #[.string xn, .int .i64 xq, .bool true, .bool xb] := by rw [hW1]; exact bk_
    clear hW1
    have hs1 := hb1.size
    have HI1 := Lib.hid (fun W (hW : Below W1.heap.size W1 W) => HI.out W (hb1.trans (hW.mono hs1)))
    have HB1 := Lib.hid hb1
    have cM := bM.cell
    have lM := bM.lt
    (refine wp_region_calm [] [0, 1, 2, 3, 4, 5, 6, 7, 8, 9, 10, 11] 1 (by kernel_rfl) rfl (by kernel_rfl) (by kernel_rfl) (by kernel_rfl) ?_; simp only [pickB, List.filterMap_cons, List.filterMap_nil, List.getElem?_toArray, List.getElem?_cons_zero, List.getElem?_cons_succ]; (repeat (first | ((first | (with_reducible refine quietL_plain rfl (fun K hK => ?_)) | (with_reducible refine quietL_want (by with_unfolding_all rfl) (fun K hK => ?_))); (apply Exists.intro; refine ⟨fun wx hx => ?_, ?_⟩; (· (have hcx := ifs_ex hx); simp [go_sem, *, ↓IntWalk.iteOmega] <;> (first | rfl | exact ⟨rfl, rfl⟩ | (with_reducible exact calls_B (HI1.out _ (Ex.low hx))))); (simp only [Act.put, List.setIfInBounds_toArray, List.set_cons_zero, List.set_cons_succ]; refine hK _ ?_; clear hK K))) | ((with_reducible refine quietL_skip (by with_unfolding_all rfl) ?_); simp only [Act.put, List.setIfInBounds_toArray, List.set_cons_zero, List.set_cons_succ]))); refine quietL_nil ?_)
    (refine anyB_one (i := 12) (by kernel_rfl) rfl rfl ?_; intro w4 hb4 K hK; have hs4 := hb4.size; (try simp at hs4); go_wp2; refine ⟨xs_, ?_⟩)
    (refine anyB_end (by kernel_rfl) ?_; intro w5 hb5; have hs5 := hb5.size; (try simp at hs5); simp only [Calm])
    have hb5' : Below W1.heap.size W1 w5 := bl_
    go_wp2_with fail
    go_ret
    exact ⟨by rw [HV.out]; rfl, HB1.out.trans (hb5'.mono HB1.out.size)⟩
  | false =>
    cases hxb : xb with
    | true =>
      rw [hxb] at HV
      subst hxb
      go_enter Tryz.func82, Tryz.ntmps82
      go_wp2_with fail
      refine wp_world ?_
      intro W1 hW1
      have hb1 : Below w.heap.size w W1 := by rw [hW1]; exact bl_
      have bM : Blk W1 w.heap.size 107 #[.string xn, .int .i64 xq, .bool false, .bool true] := by rw [hW1]; exact bk_
      clear hW1
      have hs1 := hb1.size
      have HI1 := Lib.hid (fun W (hW : Below W1.heap.size W1 W) => HI.out W (hb1.trans (hW.mono hs1)))
      have HB1 := Lib.hid hb1
      have cM := bM.cell
      have lM := bM.lt
      (refine wp_region_calm [] [0, 1, 2, 3, 4, 5, 6, 7, 8, 9, 10, 11] 1 (by kernel_rfl) rfl (by kernel_rfl) (by kernel_rfl) (by kernel_rfl) ?_; simp only [pickB, List.filterMap_cons, List.filterMap_nil, List.getElem?_toArray, List.getElem?_cons_zero, List.getElem?_cons_succ]; (repeat (first | ((first | (with_reducible refine quietL_plain rfl (fun K hK => ?_)) | (with_reducible refine quietL_want (by with_unfolding_all rfl) (fun K hK => ?_))); (apply Exists.intro; refine ⟨fun wx hx => ?_, ?_⟩; (· (have hcx := ifs_ex hx); simp [go_sem, *, ↓IntWalk.iteOmega] <;> (first | rfl | exact ⟨rfl, rfl⟩ | (with_reducible exact calls_B (HI1.out _ (Ex.low hx))))); (simp only [Act.put, List.setIfInBounds_toArray, List.set_cons_zero, List.set_cons_succ]; refine hK _ ?_; clear hK K))) | ((with_reducible refine quietL_skip (by with_unfolding_all rfl) ?_); simp only [Act.put, List.setIfInBounds_toArray, List.set_cons_zero, List.set_cons_succ]))); refine quietL_nil ?_)
      (refine anyB_one (i := 12) (by kernel_rfl) rfl rfl ?_; intro w4 hb4 K hK; have hs4 := hb4.size; (try simp at hs4); go_wp2; refine ⟨xs_, ?_⟩)
      (refine anyB_end (by kernel_rfl) ?_; intro w5 hb5; have hs5 := hb5.size; (try simp at hs5); simp only [Calm])
      have hb5' : Below W1.heap.size W1 w5 := bl_
      go_wp2_with fail
      go_ret
      exact ⟨by rw [HV.out]; rfl, HB1.out.trans (hb5'.mono HB1.out.size)⟩
    | false =>
      rw [hxb] at HV
      subst hxb
      go_enter Tryz.func82, Tryz.ntmps82
      go_wp2_with fail
      refine wp_world ?_
      intro W1 hW1
      have hb1 : Below w.heap.size w W1 := by rw [hW1]; exact bl_
      have bM : Blk W1 w.heap.size 107 #[.string xn, .int .i64 xq, .bool false, .bool false] := by rw [hW1]; exact bk_
      clear hW1
      have hs1 := hb1.size
      have HI1 := Lib.hid (fun W (hW : Below W1.heap.size W1 W) => HI.out W (hb1.trans (hW.mono hs1)))
      have HB1 := Lib.hid hb1
      have cM := bM.cell
      have lM := bM.lt
      (refine wp_region_calm [] [0, 1, 2, 3, 4, 5, 6, 7, 8, 9, 10, 11] 1 (by kernel_rfl) rfl (by kernel_rfl) (by kernel_rfl) (by kernel_rfl) ?_; simp only [pickB, List.filterMap_cons, List.filterMap_nil, List.getElem?_toArray, List.getElem?_cons_zero, List.getElem?_cons_succ]; (repeat (first | ((first | (with_reducible refine quietL_plain rfl (fun K hK => ?_)) | (with_reducible refine quietL_want (by with_unfolding_all rfl) (fun K hK => ?_))); (apply Exists.intro; refine ⟨fun wx hx => ?_, ?_⟩; (· (have hcx := ifs_ex hx); simp [go_sem, *, ↓IntWalk.iteOmega] <;> (first | rfl | exact ⟨rfl, rfl⟩ | (with_reducible exact calls_B (HI1.out _ (Ex.low hx))))); (simp only [Act.put, List.setIfInBounds_toArray, List.set_cons_zero, List.set_cons_succ]; refine hK _ ?_; clear hK K))) | ((with_reducible refine quietL_skip (by with_unfolding_all rfl) ?_); simp only [Act.put, List.setIfInBounds_toArray, List.set_cons_zero, List.set_cons_succ]))); refine quietL_nil ?_)
      (refine anyB_one (i := 12) (by kernel_rfl) rfl rfl ?_; intro w4 hb4 K hK; have hs4 := hb4.size; (try simp at hs4); go_wp2; refine ⟨xs_, ?_⟩)
      (refine anyB_end (by kernel_rfl) ?_; intro w5 hb5; have hs5 := hb5.size; (try simp at hs5); simp only [Calm])
      have hb5' : Below W1.heap.size W1 w5 := bl_
      go_wp2_with fail
      go_ret
      exact ⟨by rw [HV.out]; rfl, HB1.out.trans (hb5'.mono HB1.out.size)⟩
theorem elemStr : Elem Tryz.prog 60 9 1 16 := elem_of Tryz.underlying60 (z := .string ⟨#[]⟩) (by kernel_rfl) rfl (by decide)
set_option maxRecDepth 100000 in
set_option maxHeartbeats 2000000 in
theorem mapIS_any (B : Nat) (A : Option Addr) (n c : Nat) (l : List Int) (w : World) (hT : TabT w) (hl64 : ∀ x ∈ l, -9223372036854775808 ≤ x ∧ x ≤ 9223372036854775807) (hr : Reads w B 1 A n (l.map (Value.int .i64))) (hB : B ≤ w.heap.size) (hn : n ≤ 1000) :
    Calls Tryz.prog 78 #[.slice A n c, .func (.func 79) #[] #[]] w (MapRes 9 w (l.map fun x => Value.string (itoB x))) := by
  obtain ⟨hl, ha⟩ := enc_at hr
  have HL := Lib.hid hl
  have HA := Lib.hid ha
  clear hl ha hr
  have HT := Lib.hid hT
  clear hT
  go_enter Tryz.func78, Tryz.ntmps78
  go_wp2_with fail
  go_loopw [5, 7, 10] (fun v s7 i wr => ∃ k : Nat, k ≤ n ∧ i = .int .i64 k ∧ wr.ownsRow w.heap.size 9 1 v k ((l.take k).map fun x => Value.string (itoB x)) ∧ Below w.heap.size w wr) (fun _ _ i _ => n - (intOf i).toNat)
  case atStart => exact ⟨0, by omega, rfl, World.ownsRow_nil _ _ _ _, bl_⟩
  case round =>
    obtain ⟨k, hk, rfl, hO, hb⟩ := hrel
    have HO := Lib.hid hO
    clear hO
    have hs := hb.size
    by_cases hlt : k < n
    · have hkl : k < l.length := by rw [HL.out]; exact hlt
      obtain ⟨b, o, eA, hbb, z0⟩ := HA.out k hkl
      have kb : ∀ i, wr.cell? ⟨b, i, none⟩ = w.cell? ⟨b, i, none⟩ := fun i => hb.cell (p := ⟨b, i, none⟩) (by simp; omega)
      rw [← kb] at z0
      clear kb
      have hbw : b < wr.heap.size := by omega
      subst eA
      have hmem := List.getElem_mem hkl
      have Hd : Hid (((l.take (k + 1)).map fun x => Value.string (itoB x)) = ((l.take k).map fun x => Value.string (itoB x)) ++ [(fun x => Value.string (itoB x)) l[k]]) := by
        show _ = _
        rw [List.take_succ_eq_append_getElem hkl, List.map_append]; rfl
      generalize l[k] = x at *
      have h64 := hl64 x hmem
      have HCx := Lib.hid (Itoa_any x wr h64.1 h64.2 (HT.out.kept hb))
      clear h64 hmem
      go_wp2_with (first | (go_at_call 79; refine (HCx.out).mono ?_; rintro e w1 ⟨rfl, hb1⟩; have hs1 := hb1.size; have HO1 := Lib.hid (own_kept HO.out hb1)) | (at_builtin; refine wpList_app 60 9 1 16 elemStr rfl (.tmp 14) (.tmp 18) rfl w.heap.size _ k _ rfl HO1.out 1 rfl rfl ?h1 (by decide) ?h3 (by omega) (by omega) ?_))
      case h1 => rfl
      case h3 => unfold maxLen; omega
      intro g' cap' w' hown' hb' _ hs'
      go_wp2
      go_roundw
      case rel => exact ⟨k + 1, by omega, by go_num, by rw [Hd.out]; simpa using hown', (hb.trans (hb1.mono hs)).trans hb'⟩
      case measure => simp [intOf]; omega
    · obtain rfl : k = n := by omega
      have HL2 := Lib.hid HL.out
      go_wp2
      go_ret
      refine ⟨_, rfl, ?_, hb⟩
      have := HO.out
      rw [List.take_of_length_le (by rw [HL2.out]; exact Nat.le_refl _)] at this
      rw [List.length_map, HL2.out]
      exact this
set_option maxRecDepth 100000 in
set_option maxHeartbeats 2000000 in
theorem mapMS_any (B : Nat) (A : Option Addr) (n c : Nat) (l : List Md) (w : World) (hT : TabT w) (hlm : ∀ x ∈ l, x.n.size ≤ 100000 ∧ 0 ≤ x.q ∧ x.q ≤ 16384) (hr : Reads w B 4 A n (mds l)) (hB : B ≤ w.heap.size) (hn : n ≤ 1000) :
    Calls Tryz.prog 81 #[.slice A n c, .func (.func 82) #[] #[]] w (MapRes 9 w (l.map fun x => Value.string (textB x))) := by
  obtain ⟨hl, ha⟩ := md_at hr
  have HL := Lib.hid hl
  have HA := Lib.hid ha
  have HT := Lib.hid hT
  clear hl ha hr hT
  go_enter Tryz.func81, Tryz.ntmps81
  go_wp2_with fail
  go_loopw [5, 10] (fun v i wr => ∃ k : Nat, k ≤ n ∧ i = .int .i64 k ∧ wr.ownsRow w.heap.size 9 1 v k ((l.take k).map fun x => Value.string (textB x)) ∧ Below w.heap.size w wr) (fun _ i _ => n - (intOf i).toNat)
  case atStart => exact ⟨0, by omega, rfl, World.ownsRow_nil _ _ _ _, bl_⟩
  case round =>
    obtain ⟨k, hk, rfl, hO, hb⟩ := hrel
    have HO := Lib.hid hO
    clear hO
    have hs := hb.size
    by_cases hlt : k < n
    · have hkl : k < l.length := by rw [HL.out]; exact hlt
      obtain ⟨b, o, eA, hbb, hz⟩ := HA.out k hkl
      have kb : ∀ i, wr.cell? ⟨b, i, none⟩ = w.cell? ⟨b, i, none⟩ := fun i => hb.cell (p := ⟨b, i, none⟩) (by simp; omega)
      simp only [← kb] at hz
      clear kb
      have hbw : b < wr.heap.size := by omega
      subst eA
      have hmem := List.getElem_mem hkl
      have Hd : Hid (((l.take (k + 1)).map fun x => Value.string (textB x)) = ((l.take k).map fun x => Value.string (textB x)) ++ [(fun x => Value.string (textB x)) l[k]]) := by
        show _ = _
        rw [List.take_succ_eq_append_getElem hkl, List.map_append]; rfl
      generalize l[k] = x at *
      have hx1 := hlm x hmem
      obtain ⟨xn, xq, xo, xb⟩ := x
      obtain ⟨z0, z1, z2, z3⟩ := hz
      dsimp only at z0 z1 z2 z3 hx1
      have HCx := Lib.hid (fun W (hW : Below wr.heap.size wr W) => mtext_any ⟨xn, xq, xo, xb⟩ W (HT.out.kept (hb.trans (hW.mono hs))) hx1.1 hx1.2)
      clear hx1 hmem
      go_wp2_with (first | (go_at_call 82; refine (HCx.out _ (bl_)).mono ?_; rintro e w1 ⟨rfl, hb1⟩; have hs1 := hb1.size; simp at hs1; have HO1 := Lib.hid (own_kept (HO.out.alloc _) hb1)) | (at_builtin; refine wpList_app 60 9 1 16 elemStr rfl (.tmp 14) (.tmp 18) rfl w.heap.size _ k _ rfl HO1.out 1 rfl rfl ?h1 (by decide) ?h3 (by omega) (by omega) ?_))
      case h1 => rfl
      case h3 => unfold maxLen; omega
      intro g' cap' w' hown' hb' _ hs'
      go_wp2
      go_roundw
      case rel => exact ⟨k + 1, by omega, by go_num, by rw [Hd.out]; simpa using hown', (hb.trans (((Below.refl _ _).alloc hs _).trans (hb1.mono (by simp; omega)))).trans hb'⟩
      case measure => simp [intOf]; omega
    · obtain rfl : k = n := by omega
      have HL2 := Lib.hid HL.out
      go_wp2
      go_ret
      refine ⟨_, rfl, ?_, hb⟩
      have := HO.out
      rw [List.take_of_length_le (by rw [HL2.out]; exact Nat.le_refl _)] at this
      rw [List.length_map, HL2.out]
      exact this
theorem join_len (sep : List UInt8) : ∀ xs : List (List UInt8), (Lib.join xs sep).length ≤ (xs.map fun x => x.length + sep.length).sum
  | [] => by simp [Lib.join, List.intercalate]
  | [x] => by simp [Lib.join, List.intercalate]
  | x :: z :: r => by
    have ih := join_len sep (z :: r)
    have e : Lib.join (x :: z :: r) sep = x ++ sep ++ Lib.join (z :: r) sep := by simp [Lib.join, List.intercalate, List.intersperse]
    rw [e, List.length_append, List.length_append, List.map_cons, List.sum_cons]
    omega
theorem sum_le {α : Type} (f : α → Nat) (m : Nat) : ∀ l : List α, (∀ x ∈ l, f x ≤ m) → (l.map f).sum ≤ l.length * m
  | [], _ => by simp
  | x :: r, h => by
    have ih := sum_le f m r (fun y hy => h y (List.mem_cons_of_mem _ hy))
    have := h x List.mem_cons_self
    rw [List.map_cons, List.sum_cons, List.length_cons, Nat.succ_mul]
    omega
/-- Words with something between them. -/
def jB (xs : List ByteArray) (sep : List UInt8) : ByteArray := ⟨(Lib.join (xs.map (·.data.toList)) sep).toArray⟩
theorem jB_size {xs : List ByteArray} {sep : List UInt8} {m : Nat} (h : ∀ x ∈ xs, x.size ≤ m) : (jB xs sep).size ≤ xs.length * (m + sep.length) := by
  have h1 := join_len sep (xs.map (·.data.toList))
  rw [List.map_map] at h1
  have h2 := sum_le ((fun x : List UInt8 => x.length + sep.length) ∘ fun x : ByteArray => x.data.toList) (m + sep.length) xs (fun x hx => by have := h x hx; simp; exact this)
  have e : (jB xs sep).size = (Lib.join (xs.map (·.data.toList)) sep).length := by unfold jB; simp [ByteArray.size]
  rw [e]
  exact Nat.le_trans h1 h2
theorem join_any (B : Nat) (A : Option Addr) (n c : Nat) (xs : List ByteArray) (sep : List UInt8) (m : Nat) (w : World) (hr : Reads w B 1 A n (xs.map .string)) (hB : B ≤ w.heap.size) (h0 : 0 < n) (hc : n ≤ c) (hn : n ≤ 1000) (hm : ∀ x ∈ xs, x.size ≤ m) (hm2 : m + sep.length ≤ 1000000) :
    Calls Tryz.prog 80 #[.slice A n c, .string ⟨sep.toArray⟩] w fun e w' => e = .returned (.string (jB xs sep)) ∧ Below w.heap.size w w' := by
  obtain ⟨hl, _⟩ := enc_at hr
  obtain ⟨b, o, rfl, hb, hcl⟩ := hr.2 h0
  subst hl
  have hs := jB_size (sep := sep) hm
  have e : (jB xs sep).size = (Lib.join (xs.map (·.data.toList)) sep).length := by unfold jB; simp [ByteArray.size]
  have hml : xs.length * (m + sep.length) ≤ 1000 * 1000000 := Nat.mul_le_mul hn hm2
  exact Tryz.strings_Join b o c xs ⟨sep.toArray⟩ w (fun j x hx => hcl j _ (by simp [hx])) (by omega) (by omega) hc (by show (Lib.join _ sep).length ≤ _; omega)
theorem wpList_appL {P : Program} {ops : Array Oper} {rest : List Oper} {o : Oper} {a : Act} {Q : Exit → Act → World → Prop} {w : World} (t e size bytes : Nat) (E : Elem P t e size bytes) (hgd : o.guard = none) (s x : Operand)
    (ho : o.op = .call { callee := .builtin .append, args := #[s, x], argTypes := #[t, t] }) (base : Nat) (v : Value) (n : Nat) (xs : List Value) (hs : a.eval s = v) (hown : w.ownsRow base e size v n xs) (ad : Addr) (m c : Nat) (news : List Value) (hx : a.eval x = .slice (some ad) m c)
    (hnews : ∀ j u, news[j]? = some u → w.cell? (ad.add j) = some u) (hl : news.length = m * size) (h1 : ∀ u ∈ news, u.oneCell' = true) (hm : 0 < m) (h63 : n + m ≤ maxLen) (hbytes : (n + m) * bytes ≤ 140737488355328) (hbase : base ≤ w.heap.size)
    (h : ∀ g cap w', Own w' base e size g (n + m) cap (xs ++ news) → w.grownBy w' v.ownBlock → wpList P ops Q rest (a.put o.dst (.slice (some ⟨g, 0, none⟩) (n + m) cap)) w') : wpList P ops Q (o :: rest) a w :=
  wpList_plain hgd fun _ hK => by
    obtain ⟨ht, ⟨i, z, h1', h2', h3', h4', h5'⟩, hp⟩ := E
    refine wp_append_lies w s x t ho base e i z size bytes ht h1' h2' h3' h4' h5' hp v n xs hs hown ad m c news hx hl hnews h1 hm h63 hbytes hbase _ rfl ?_
    intro g cap w' hown' hg _ _
    exact hK _ _ (h g cap w' hown' hg)
def headW (a : Ar) : List ByteArray := ⟨#[97, 114, 109]⟩ :: [a.lo, a.hi, a.cur, a.lim].map itoB
/-- The text of an arm. -/
def printB (a : Ar) : ByteArray := (jB (headW a) [32] ++ ⟨#[10]⟩) ++ jB (a.m.map textB) []
theorem textB_size {x : Md} (hn : x.n.size ≤ 24) (hq : 0 ≤ x.q ∧ x.q ≤ 16384) : (textB x).size ≤ 70 := by
  have h1 := itoB_size (n := x.q) (by omega) (by omega)
  have h2 : (stB x).size ≤ 8 := by unfold stB; split; decide; split <;> decide
  unfold textB
  simp only [ByteArray.size_append]
  have e1 : (⟨#[109, 111, 100, 117, 108, 101, 32]⟩ : ByteArray).size = 7 := rfl
  have e2 : (⟨#[32]⟩ : ByteArray).size = 1 := rfl
  have e3 : (⟨#[10]⟩ : ByteArray).size = 1 := rfl
  omega
theorem nameB_size {s : ByteArray} (h : nameB s = true) : s.size ≤ 24 := by
  unfold nameB at h
  simp at h
  exact h.2.2
set_option maxRecDepth 100000 in
set_option maxHeartbeats 4000000 in
theorem Print_any (B : Nat) (A : Option Addr) (n c : Nat) (a : Ar) (w : World) (hM : MsAt w B A n a.m) (hB : B ≤ w.heap.size) (hF : FitA a) (hnc : n ≤ c) (hE : armE a = 0) (hT : TabT w) :
    Calls Tryz.prog 23 #[.agg #[.slice A n c, .int .i64 a.lo, .int .i64 a.hi, .int .i64 a.cur, .int .i64 a.lim]] w fun e w' => e = .returned (.tuple #[.string (printB a), .int .i64 0]) ∧ Below w.heap.size w w' := by
  have hl := (md_at hM).1
  have hFit := fit_of hE
  have h17 := hF.len
  have hn0 := hFit.n0
  have HC := Lib.hid (fun W (hW : Below w.heap.size w W) => CheckArm_any B A n c a W (hM.below (hW.mono hB)) (by have := hW.size; omega) hF hnc)
  rw [hE] at HC
  have HMs := Lib.hid (fun W (hW : Below w.heap.size w W) => mapMS_any B A n c a.m W (hT.kept hW) (fun x hx => ⟨by have := nameB_size (hFit.nm x hx); omega, hFit.q x hx⟩) (hM.below (hW.mono hB)) (by have := hW.size; omega) (by omega))
  have HT := Lib.hid hT
  have HFit := Lib.hid hFit
  have hlo := hFit.lo
  have hhi := hFit.hi
  have hcu := hFit.cur
  have hli := hFit.lim
  clear hM hF hE hT hFit
  go_enter Tryz.func23, Tryz.ntmps23
  go_wp2_with fail
  refine (HC.out _ bl_).mono ?_
  rintro e w1 ⟨rfl, hb1⟩
  have hs1 := hb1.size
  simp at hs1
  have bA : Blk w1 w.heap.size 36 #[.slice A n c, .int .i64 a.lo, .int .i64 a.hi, .int .i64 a.cur, .int .i64 a.lim] := bk_
  have hlow : Below w.heap.size w w1 := bl_
  have HL1 := Lib.hid hlow
  have cA := bA.cell
  have lA := bA.lt
  clear hb1 hlow HC
  go_wp2_with fail
  have hal : Below w1.heap.size w1 ((w1.alloc (.cells #[.string ⟨#[97, 114, 109]⟩] 9)).alloc (.cells #[.int .i64 a.lo, .int .i64 a.hi, .int .i64 a.cur, .int .i64 a.lim] 3)) := bl_
  have HL3 := Lib.hid (HL1.out.trans (hal.mono (by omega)))
  have bI : Blk ((w1.alloc (.cells #[.string ⟨#[97, 114, 109]⟩] 9)).alloc (.cells #[.int .i64 a.lo, .int .i64 a.hi, .int .i64 a.cur, .int .i64 a.lim] 3)) (w1.heap.size + 1) 3 #[.int .i64 a.lo, .int .i64 a.hi, .int .i64 a.cur, .int .i64 a.lim] := bk_
  have hown := (Own.new w1 w.heap.size 9 1 1 #[.string ⟨#[97, 114, 109]⟩] (by omega) rfl (by decide)).alloc (.cells #[.int .i64 a.lo, .int .i64 a.hi, .int .i64 a.cur, .int .i64 a.lim] 3)
  have HOwn := Lib.hid hown
  have hrI : Reads _ (w1.heap.size + 1 + 1) 1 (some ⟨w1.heap.size + 1, 0, none⟩) 4 ([a.lo, a.hi, a.cur, a.lim].map (Value.int .i64)) := Reads.blk bI rfl
  have HI := Lib.hid (mapIS_any (w1.heap.size + 1 + 1) (some ⟨w1.heap.size + 1, 0, none⟩) 4 4 [a.lo, a.hi, a.cur, a.lim] _ (HT.out.kept HL3.out) (by intro x hx; simp at hx; rcases hx with rfl | rfl | rfl | rfl <;> omega) hrI (by simp) (by omega))
  have bA3 := bA.kept hal
  clear hal bI hown hrI cA lA bA
  refine HI.out.mono ?_
  rintro e w4 ⟨v4, rfl, hr4, hb4⟩
  obtain ⟨A4, c4, rfl, _, _, hrd4⟩ := own_form hr4
  have hs4 := hb4.size
  simp at hs4
  obtain ⟨b4, o4, rfl, hbl4, hc4⟩ := hrd4.2 (by show 0 < 4; omega)
  have HOwn4 := Lib.hid (own_kept HOwn.out hb4)
  have HL4 := Lib.hid (HL3.out.trans (hb4.mono (by simp; omega)))
  have bA4 := bA3.kept hb4
  have HN4 := Lib.hid hc4
  clear hr4 hb4 hrd4 hc4 HI HOwn bA3
  go_wp2_with (at_builtin; refine wpList_appL 60 9 1 16 elemStr rfl (.tmp 11) (.tmp 23) rfl w.heap.size _ 1 _ rfl HOwn4.out ⟨b4, o4, none⟩ 4 c4 ([a.lo, a.hi, a.cur, a.lim].map fun x => Value.string (itoB x)) rfl ?hn rfl ?h1 (by decide) ?h3 ?h4 ?h5 ?_)
  case hn => exact fun j u hu => by rw [Addr.add_lit]; exact HN4.out j u hu
  case h1 => intro u hu; simp at hu; rcases hu with rfl | rfl | rfl | rfl <;> rfl
  case h3 => unfold maxLen; omega
  case h4 => omega
  case h5 => have := HL4.out.size; omega
  intro g6 c6 w6 hO6 hg6
  have hs6 := hg6.size
  have bA6 : Blk w6 w.heap.size 36 #[.slice A n c, .int .i64 a.lo, .int .i64 a.hi, .int .i64 a.cur, .int .i64 a.lim] := bA4.grown hg6 (fun e => own_ne HOwn4.out bA4 (by decide) e.symm)
  have HL6 := Lib.hid (HL4.out.grown hg6 (by have := HL4.out.size; omega) (fun r e => (row_base_lt HOwn4.out r e).1))
  have hrow : w6.ownsRow w.heap.size 9 1 (.slice (some ⟨g6, 0, none⟩) 5 c6) 5 ((headW a).map .string) := hO6
  obtain ⟨A6', c6', e6, hc6, _, hrd6⟩ := own_form hrow
  cases e6
  have hhead : ∀ x ∈ headW a, x.size ≤ 21 := by
    intro x hx
    unfold headW at hx
    simp only [List.map_cons, List.map_nil, List.mem_cons, List.not_mem_nil, or_false] at hx
    rcases hx with rfl | rfl | rfl | rfl | rfl
    · decide
    · exact itoB_size (by omega) (by omega)
    · exact itoB_size (by omega) (by omega)
    · exact itoB_size (by omega) (by omega)
    · exact itoB_size (by omega) (by omega)
  have HJ1 := Lib.hid (fun W (hW : Below w6.heap.size w6 W) => join_any w6.heap.size (some ⟨g6, 0, none⟩) 5 c6 (headW a) [32] 21 W (hrd6.below hW) hW.size (by omega) hc6 (by omega) hhead (by decide))
  have hj1 := jB_size (sep := [32]) hhead
  have hHl : (headW a).length = 5 := rfl
  rw [hHl] at hj1
  simp at hj1
  have HV : Hid (printB a = (jB (headW a) [32] ++ ⟨#[10]⟩) ++ jB (a.m.map textB) []) := Lib.hid rfl
  have cA6 := bA6.cell
  have lA6 := bA6.lt
  have HMq := Lib.hid (fun W (hW : Below w6.heap.size w6 W) => HMs.out W (HL6.out.trans (hW.mono HL6.out.size)))
  have HJ2 := Lib.hid (fun (W : World) (A : Option Addr) (cc : Nat) (hr : Reads W W.heap.size 1 A n ((a.m.map textB).map .string)) (hcc : n ≤ cc) => join_any W.heap.size A n cc (a.m.map textB) [] 70 W hr (Nat.le_refl _) (by omega) hcc (by omega) (by
    intro x hx
    obtain ⟨y, hy, rfl⟩ := List.mem_map.1 hx
    exact textB_size (nameB_size (HFit.out.nm y hy)) (HFit.out.q y hy)) (by decide))
  have hj2 : (jB (a.m.map textB) []).size ≤ 17 * 70 := by
    have := jB_size (sep := []) (xs := a.m.map textB) (m := 70) (by
      intro x hx
      obtain ⟨y, hy, rfl⟩ := List.mem_map.1 hx
      exact textB_size (nameB_size (HFit.out.nm y hy)) (HFit.out.q y hy))
    rw [List.length_map] at this
    have h2 := Nat.mul_le_mul_right (70 + ([] : List UInt8).length) (show a.m.length ≤ 17 by omega)
    exact Nat.le_trans this (by simpa using h2)
  generalize hjj1 : jB (headW a) [32] = j1 at *
  generalize hjj2 : jB (a.m.map textB) [] = j2 at *
  clear hg6 hO6 hrow hrd6 bA6 bA4 HOwn4 HN4 hhead hHl hjj1 hjj2 HMs
  go_wp2_with fail
  (refine wp_region_calm [] [0, 1, 2, 3, 4] 5 (by kernel_rfl) rfl (by kernel_rfl) (by kernel_rfl) (by kernel_rfl) ?_; simp only [pickB, List.filterMap_cons, List.filterMap_nil, List.getElem?_toArray, List.getElem?_cons_zero, List.getElem?_cons_succ]; (repeat (first | ((first | (with_reducible refine quietL_plain rfl (fun K hK => ?_)) | (with_reducible refine quietL_want (by with_unfolding_all rfl) (fun K hK => ?_))); (apply Exists.intro; refine ⟨fun wx hx => ?_, ?_⟩; (· (have hcx := ifs_ex hx); simp [go_sem, *, ↓IntWalk.iteOmega] <;> (first | rfl | exact ⟨rfl, rfl⟩ | (with_reducible exact calls_B (HJ1.out _ (Ex.low hx))))); (simp only [Act.put, List.setIfInBounds_toArray, List.set_cons_zero, List.set_cons_succ]; refine hK _ ?_; clear hK K))) | ((with_reducible refine quietL_skip (by with_unfolding_all rfl) ?_); simp only [Act.put, List.setIfInBounds_toArray, List.set_cons_zero, List.set_cons_succ]))); refine quietL_nil ?_)
  (refine anyB_one (i := 5) (by kernel_rfl) rfl rfl ?_; intro w7 hb7 K hK; have hs7 := hb7.size; (try simp at hs7); go_wp2_with fail)
  refine (HMq.out _ hb7).mono ?_
  rintro e w8 ⟨v8, rfl, hr8, hb8⟩
  obtain ⟨A8, c8, rfl, hc8, _, hrd8⟩ := own_form hr8
  have hs8 := hb8.size
  have el : (a.m.map fun x => Value.string (textB x)).length = n := by rw [List.length_map, hl]
  have es : (a.m.map fun x => Value.string (textB x)) = (a.m.map textB).map .string := by rw [List.map_map]; rfl
  rw [el] at hrd8 hc8
  rw [es] at hrd8
  rw [el]
  have HRd8 := Lib.hid hrd8
  clear hr8 hrd8 el es
  (go_wp2; refine ⟨xs_, ?_⟩)
  (refine anyB_one (i := 6) (by kernel_rfl) rfl rfl ?_; intro w9 hb9 K hK; have hs9 := hb9.size; (try simp at hs9); go_wp2_with fail)
  refine (HJ2.out w9 A8 c8 ((HRd8.out.below hb9).more hs9) hc8).mono ?_
  rintro e w10 ⟨rfl, hb10⟩
  have hs10 := hb10.size
  (go_wp2; refine ⟨xs_, ?_⟩)
  (refine anyB_quiet_at (by kernel_rfl) calm_panic xs_ 2 [7] _ _ (by kernel_rfl) (by decide +kernel) ?_; simp only [pickB, List.filterMap_cons, List.filterMap_nil, List.getElem?_toArray, List.getElem?_cons_zero, List.getElem?_cons_succ]; (repeat (first | ((first | (with_reducible refine quietL_plain rfl (fun K hK => ?_)) | (with_reducible refine quietL_want (by with_unfolding_all rfl) (fun K hK => ?_))); (apply Exists.intro; refine ⟨fun wx hx => ?_, ?_⟩; (· (have hcx := ifs_ex hx); simp [go_sem, *, ↓IntWalk.iteOmega] <;> (first | rfl | exact ⟨rfl, rfl⟩ | fail)); (simp only [Act.put, List.setIfInBounds_toArray, List.set_cons_zero, List.set_cons_succ]; refine hK _ ?_; clear hK K))) | ((with_reducible refine quietL_skip (by with_unfolding_all rfl) ?_); simp only [Act.put, List.setIfInBounds_toArray, List.set_cons_zero, List.set_cons_succ]))); refine quietL_nil ?_)
  (refine anyB_one (i := 8) (by kernel_rfl) rfl rfl ?_; intro w11 hb11 K hK; have hs11 := hb11.size; (try simp at hs11); go_wp2; refine ⟨xs_, ?_⟩)
  (refine anyB_one (i := 9) (by kernel_rfl) rfl rfl ?_; intro w12 hb12 K hK; have hs12 := hb12.size; (try simp at hs12); go_wp2; refine ⟨xs_, ?_⟩)
  (refine anyB_end (by kernel_rfl) ?_; intro w13 hb13; have hs13 := hb13.size; (try simp at hs13); simp only [Calm])
  have hb13' : Below w6.heap.size w6 w13 := bl_
  have HB13 := Lib.hid hb13'
  clear hb7 hb8 hb9 hb10 hb11 hb12 hb13 hb13'
  go_wp2_with fail
  go_ret2
  exact ⟨by rw [HV.out]; rfl, HL6.out.trans (HB13.out.mono HL6.out.size)⟩
end Go.Proofs.YtjanojmgnpfjeaaGreatDoor
