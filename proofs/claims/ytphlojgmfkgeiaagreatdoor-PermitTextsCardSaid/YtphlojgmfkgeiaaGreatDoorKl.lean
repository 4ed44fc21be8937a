/- Joined texts: Jn VC VG. -/
import Derived.Shelf.Strings.OnBuilder
import Derived.Test.YtphlojgmfkgeiaaGreatDoorProg
import Derived.Test.YtphlojgmfkgeiaaGreatDoorKg
import Derived.Test.YtphlojgmfkgeiaaGreatDoorKk
/-
  DERIVED: THE SHELF's CONTRACTS AT THIS DUMP, IN PLAIN WORDS (tools/lay-plain.mjs out of 'TryzShelf.lean', which tools/lay-shelf.mjs wrote): THE SAME DECLARATIONS UNDER THE SAME NAMES: 'import', 'namespace', 'open', 'def', 'theorem' AND NOTHING ELSE: no command of the shelf's: FOR A HAND-IN. Each laying: the table of numbers ('.._ren') and one theorem, a field a fact of the dump's own or the kernel's comparison; each contract: ONE APPLICATION.
-/
namespace Go.Proofs
open Go.Shelf
def Tryz.lays156_ren : Go.Shelf.Ren := ⟨fun | 156 => 176 | 165 => 201 | 166 => 202 | 169 => 203 | 240 => 218 | 241 => 219 | 276 => 230 | 277 => 231 | n => n, fun | 31 => 56 | 9 => 9 | 3 => 3 | 4 => 4 | 0 => 0 | 20 => 20 | 72 => 231 | 76 => 235 | 70 => 228 | 37 => 229 | 75 => 234 | 127 => 250 | 164 => 259 | 5 => 5 | 80 => 150 | n => n, fun | n => n⟩
theorem Tryz.lays156 : Go.Proofs.Lays.n156 Tryz.prog Tryz.lays156_ren := {
  mixed := by kernel_rfl
  f156 := Tryz.func176.trans (congrArg some (by kernel_rfl))
  f165 := Tryz.func201.trans (congrArg some (by kernel_rfl))
  f166 := Tryz.func202.trans (congrArg some (by kernel_rfl))
  f169 := Tryz.func203.trans (congrArg some (by kernel_rfl))
  f240 := Tryz.func218.trans (congrArg some (by kernel_rfl))
  f241 := Tryz.func219.trans (congrArg some (by kernel_rfl))
  f276 := Tryz.func230.trans (congrArg some (by kernel_rfl))
  f277 := Tryz.func231.trans (congrArg some (by kernel_rfl))
  t0 := Tryz.underlying0
  a0 := Tryz.isAgg0
  z0 := Tryz.sizeOf0
  v0 := Tryz.zeroValue0
  t3 := Tryz.underlying3
  a3 := Tryz.isAgg3
  z3 := Tryz.sizeOf3
  v3 := Tryz.zeroValue3
  t4 := Tryz.underlying4
  a4 := Tryz.isAgg4
  z4 := Tryz.sizeOf4
  v4 := Tryz.zeroValue4
  t9 := Tryz.underlying9
  a9 := Tryz.isAgg9
  z9 := Tryz.sizeOf9
  v9 := Tryz.zeroValue9
  t20 := Tryz.underlying20
  a20 := Tryz.isAgg20
  z20 := Tryz.sizeOf20
  v20 := Tryz.zeroValue20
  t31 := Tryz.underlying56
  a31 := Tryz.isAgg56
  z31 := Tryz.sizeOf56
  v31 := Tryz.zeroValue56
  t37 := Tryz.underlying229
  a37 := Tryz.isAgg229
  z37 := Tryz.sizeOf229
  v37 := Tryz.zeroValue229
  t70 := Tryz.underlying228
  a70 := Tryz.isAgg228
  z70 := Tryz.sizeOf228
  v70 := Tryz.zeroValue228
  t72 := Tryz.underlying231
  a72 := Tryz.isAgg231
  z72 := Tryz.sizeOf231
  v72 := Tryz.zeroValue231
  t75 := Tryz.underlying234
  a75 := Tryz.isAgg234
  z75 := Tryz.sizeOf234
  v75 := Tryz.zeroValue234
  t76 := Tryz.underlying235
  a76 := Tryz.isAgg235
  z76 := Tryz.sizeOf235
  v76 := Tryz.zeroValue235
  t127 := Tryz.underlying250
  a127 := Tryz.isAgg250
  z127 := Tryz.sizeOf250
  v127 := Tryz.zeroValue250
  t164 := Tryz.underlying259
  a164 := Tryz.isAgg259
  z164 := Tryz.sizeOf259
  v164 := Tryz.zeroValue259 }
theorem Tryz.Builder_Extra_156 : Builder.Extra Tryz.prog Tryz.lays156_ren := {
  sizeBuilder := by kernel_rfl
  liesBuilder := by kernel_rfl
  t5 := Tryz.underlying5
  a5 := Tryz.isAgg5
  z5 := Tryz.sizeOf5
  v5 := Tryz.zeroValue5
  infoByte := by kernel_rfl
  cellsByte := by kernel_rfl
  sizeByte := by kernel_rfl
  neB5 := by decide }
open Go.RowKit in
/-- No element: the empty string; the world is as it was. (Whatever the slice's address and capacity: a nil slice too.) (LAID: no walk: one application.) -/
theorem Tryz.strings_Join_none (a : Option Addr) (c : Nat) (sep : ByteArray) (w : World) :
    Calls Tryz.prog 176 #[.slice a 0 c, .string sep] w fun e w' => e = .returned (.string ⟨#[]⟩) ∧ w' = w := Any.strings_Join_none Tryz.lays156 Tryz.Builder_Extra_156 a c sep w
open Go.RowKit in
/-- strings.Join: "Join concatenates the elements of its first argument to create a single string. The separator string sep is placed between elements in the resulting string.": HOWEVER MANY ELEMENTS. Below the heap's end the world is as it was. (LAID: no walk: one application.) -/
theorem Tryz.strings_Join (bk o c : Nat) (xs : List ByteArray) (sep : ByteArray) (w : World) (hcells : ∀ (j : Nat) x, xs[j]? = some x → w.cell? ⟨bk, o + j, none⟩ = some (.string x)) (hbk : bk < w.heap.size) (hN : xs.length ≤ 140737488355328) (hcap : xs.length ≤ c) (hlen : (Lib.join (xs.map (·.data.toList)) sep.data.toList).length ≤ 140737488355328) :
    Calls Tryz.prog 176 #[.slice (some ⟨bk, o, none⟩) xs.length c, .string sep] w fun e w' => e = .returned (.string ⟨(Lib.join (xs.map (·.data.toList)) sep.data.toList).toArray⟩) ∧ Below w.heap.size w w' := Any.strings_Join Tryz.lays156 Tryz.Builder_Extra_156 bk o c xs sep w hcells hbk hN hcap hlen
end Go.Proofs
/- Lines of words. -/
namespace Go.Proofs.YtphlojgmfkgeiaaGreatDoor
open Go.RowKit Go.Sort Go.Shelf
set_option linter.unusedSimpArgs false
set_option linter.unusedVariables false
attribute [local go_sem] cell_if frozen_if grow_cell
def lineL (xs : List ByteArray) : List UInt8 := Lib.join (xs.map (·.data.toList)) [32] ++ [10]
theorem ba_app (l m : List UInt8) : ((⟨l.toArray⟩ : ByteArray) ++ ⟨m.toArray⟩) = ⟨(l ++ m).toArray⟩ := by
  apply ByteArray.ext
  simp
theorem either_any (q : Bool) (a b : ByteArray) (w : World) : Calls Tryz.prog 146 #[.bool q, .string a, .string b] w fun e w' => e = .returned (.string (if q then a else b)) ∧ w = w' := by
  cases q
  all_goals
    go_enter Tryz.func146, Tryz.ntmps146
    go_wp2
    go_ret
    exact ⟨rfl, rfl⟩
theorem line_any (b o c : Nat) (xs : List ByteArray) (w : World) (hr : Reads w w.heap.size 1 (some ⟨b, o, none⟩) xs.length (xs.map .string)) (h0 : 0 < xs.length) (hc : xs.length ≤ c) (hn : xs.length ≤ 1000) (hlen : (lineL xs).length ≤ 100000) :
    Calls Tryz.prog 145 #[.slice (some ⟨b, o, none⟩) xs.length c] w fun e w' => e = .returned (.string ⟨(lineL xs).toArray⟩) ∧ Below w.heap.size w w' := by
  obtain ⟨b', o', e, hb, hcl⟩ := hr.2 h0
  cases e
  have hl2 : (Lib.join (xs.map (·.data.toList)) [32]).length ≤ 100000 := by unfold lineL at hlen; rw [List.length_append] at hlen; omega
  have HJ := Lib.hid (Tryz.strings_Join b o c xs ⟨#[32]⟩ w (fun j x hx => hcl j _ (by simp [hx])) hb (by omega) hc (by show (Lib.join _ [32]).length ≤ _; omega))
  change Hid (Calls _ _ _ _ fun e w' => e = .returned (.string ⟨(Lib.join (xs.map (·.data.toList)) [32]).toArray⟩) ∧ _) at HJ
  have HE : Hid (lineL xs = Lib.join (xs.map (·.data.toList)) [32] ++ [10]) := Lib.hid rfl
  clear hr hcl hlen
  generalize lineL xs = r at *
  generalize Lib.join (xs.map (·.data.toList)) [32] = l at *
  go_enter Tryz.func145, Tryz.ntmps145
  go_wp2_with fail
  refine HJ.out.mono ?_
  (rintro e w1 ⟨rfl, hb1⟩; have hs1 := hb1.size; (try simp at hs1))
  go_wp2_with fail
  go_ret
  exact ⟨by rw [HE.out, ← ba_app]; rfl, bl_⟩
theorem join_len (sep : List UInt8) : ∀ xs : List (List UInt8), (Lib.join xs sep).length ≤ (xs.map fun x => x.length + sep.length).sum
  | [] => by simp [Lib.join, List.intercalate]
  | [x] => by simp [Lib.join, List.intercalate]
  | x :: z :: r => by
    have ih := join_len sep (z :: r)
    have e : Lib.join (x :: z :: r) sep = x ++ sep ++ Lib.join (z :: r) sep := by simp [Lib.join, List.intercalate, List.intersperse]
    rw [e, List.length_append, List.length_append, List.map_cons, List.sum_cons]
    omega
theorem sum_le {α : Type} (f : α → Nat) (m : Nat) : ∀ l : List α, (∀ x ∈ l, f x ≤ m) → (l.map f).sum ≤ l.length * m
  | [], _ => by simp
  | x :: r, h => by
    have ih := sum_le f m r (fun y hy => h y (List.mem_cons_of_mem _ hy))
    have := h x List.mem_cons_self
    rw [List.map_cons, List.sum_cons, List.length_cons, Nat.succ_mul]
    omega
theorem line_len {xs : List ByteArray} (h : ∀ x ∈ xs, x.size ≤ 24) : (lineL xs).length ≤ xs.length * 25 + 1 := by
  unfold lineL
  rw [List.length_append]
  have h1 := join_len [32] (xs.map (·.data.toList))
  rw [List.map_map] at h1
  have h2 := sum_le ((fun x : List UInt8 => x.length + [32].length) ∘ fun x : ByteArray => x.data.toList) 25 xs (fun x hx => by have := h x hx; simp; exact this)
  simp only [List.length_cons, List.length_nil]
  omega
theorem nameE_size {s : ByteArray} (h : nameE s = 0) : s.size ≤ 24 := by
  have h1 := whenE_zero (by decide) h
  simp only [Bool.not_eq_false'] at h1
  unfold nameB at h1
  simp at h1
  exact h1.2.2
theorem chkGo_names : ∀ (l : List (ByteArray × Int)) (b : List ByteArray), chkGo b l = 0 → ∀ q ∈ l, nameE q.1 = 0
  | [], _, _ => by simp
  | (s, e) :: r, b, h => by
    unfold chkGo at h
    split at h
    · rename_i h'
      intro q hq
      rcases List.mem_cons.1 hq with rfl | hq
      · unfold chkOne at h'
        rw [firstE_cons, firstE_cons] at h'
        exact (or0_zero (or0_zero h').1).1
      · exact chkGo_names r _ h q hq
    · rename_i h'; exact absurd h h'
theorem chkAll_names {l : List (ByteArray × Int)} (h : chkAll l = 0) : ∀ q ∈ l, nameE q.1 = 0 := by
  unfold chkAll at h
  split at h
  · cases h
  · exact chkGo_names l _ h
/-- The names of a yard without errors are short. -/
structure Names (y : Yd) : Prop where
  s : ∀ x ∈ y.s, x.n.size ≤ 24
  w : ∀ x ∈ y.w, x.n.size ≤ 24 ∧ x.k.size ≤ 24
  p : ∀ x ∈ y.p, x.n.size ≤ 24
theorem kindB_size {k : ByteArray} (h : kindB k = true) : k.size ≤ 24 := by
  unfold kindB at h
  rw [toList_data] at h
  have e : k.size = k.data.toList.length := by simp
  rw [e]
  simp only [Bool.or_eq_true, beq_iff_eq] at h
  rcases h with (h | h) | h <;> rw [h] <;> decide
theorem names_of {y : Yd} (h : yardE y = 0) : Names y := by
  unfold yardE at h
  have h := (or0_zero h).1
  unfold partsE at h
  obtain ⟨h0, h⟩ := or0_zero h
  obtain ⟨h1, h⟩ := or0_zero h
  obtain ⟨h2, h3⟩ := or0_zero h
  refine ⟨fun x hx => nameE_size (chkAll_names h1 (x.n, 0) (List.mem_map.2 ⟨x, hx, rfl⟩)), fun x hx => ⟨nameE_size (chkAll_names h2 (x.n, swE y.s.length x) (List.mem_map.2 ⟨x, hx, rfl⟩)), ?_⟩, fun x hx => nameE_size (chkAll_names h3 (x.n, _) (List.mem_map.2 ⟨x, hx, rfl⟩))⟩
  have := (chkAll_zero h2).2 (x.n, swE y.s.length x) (List.mem_map.2 ⟨x, hx, rfl⟩)
  unfold swE at this
  dsimp only at this
  split at this
  · rename_i hk; exact kindB_size hk
  · cases this
end Go.Proofs.YtphlojgmfkgeiaaGreatDoor
/- Print. -/
namespace Go.Proofs.YtphlojgmfkgeiaaGreatDoor
open Go.RowKit Go.Sort Go.Shelf
set_option linter.unusedSimpArgs false
set_option linter.unusedVariables false
attribute [local go_sem] cell_if frozen_if grow_cell
def nmS (y : Yd) (i : Int) : ByteArray := ((y.s[i.toNat]?).map Sec.n).getD ⟨#[]⟩
def secW (x : Sec) : List ByteArray := [⟨#[115, 101, 99, 116, 105, 111, 110]⟩, x.n, if x.src then ⟨#[115, 111, 117, 114, 99, 101]⟩ else ⟨#[112, 108, 97, 105, 110]⟩]
def swW (y : Yd) (x : Sw) : List ByteArray := [x.k, x.n, nmS y x.a] ++ (if x.k.toList == earthL then [] else [nmS y x.b]) ++ [if x.c then ⟨#[99, 108, 111, 115, 101, 100]⟩ else ⟨#[111, 112, 101, 110]⟩]
def pmW (y : Yd) (x : Pm) : List ByteArray := [⟨#[112, 101, 114, 109, 105, 116]⟩, x.n, nmS y x.s]
/-- The text of a yard. -/
def printL (y : Yd) : List UInt8 := (y.s.flatMap fun x => lineL (secW x)) ++ (y.w.flatMap fun x => lineL (swW y x)) ++ (y.p.flatMap fun x => lineL (pmW y x))
theorem fm_take {α : Type} (f : α → List UInt8) (l : List α) (k : Nat) (h : k < l.length) : (l.take (k + 1)).flatMap f = (l.take k).flatMap f ++ f l[k] := by
  rw [List.take_succ_eq_append_getElem h, List.flatMap_append]; simp
theorem nmS_get {y : Yd} {k : Nat} (h : k < y.s.length) : nmS y (k : Int) = y.s[k].n := by simp [nmS, h]
theorem lineW_any (ws : List ByteArray) (n c b : Nat) (W : World) (h24 : ∀ x ∈ ws, x.size ≤ 24) (hn : ws.length = n) (h0 : 0 < n) (h5 : n ≤ 5) (hc : n ≤ c) (hr : Reads W W.heap.size 1 (some ⟨b, 0, none⟩) n (ws.map .string)) : Calls Tryz.prog 145 #[.slice (some ⟨b, 0, none⟩) n c] W fun e w' => e = .returned (.string ⟨(lineL ws).toArray⟩) ∧ Below W.heap.size W w' := by
  subst hn
  exact line_any b 0 c ws W hr h0 hc (by omega) (by have := line_len h24; omega)
theorem fm_len {α : Type} {f : α → List UInt8} {m : Nat} : ∀ {l : List α}, (∀ x ∈ l, (f x).length ≤ m) → (l.flatMap f).length ≤ l.length * m
  | [], _ => by simp
  | x :: r, h => by
    have := fm_len (f := f) (m := m) (l := r) (fun y hy => h y (List.mem_cons_of_mem _ hy))
    have := h x List.mem_cons_self
    rw [List.flatMap_cons, List.length_append, List.length_cons, Nat.succ_mul]
    omega
theorem secW_24 {x : Sec} (h : x.n.size ≤ 24) : ∀ z ∈ secW x, z.size ≤ 24 := fun z hz => by
  simp only [secW, List.mem_cons, List.not_mem_nil, or_false] at hz
  rcases hz with rfl | rfl | rfl
  · decide
  · exact h
  · split <;> decide
theorem nmS_24 {y : Yd} (h : Names y) (i : Int) : (nmS y i).size ≤ 24 := by
  unfold nmS
  cases e : y.s[i.toNat]? with
  | none => decide
  | some x => exact h.s x (List.mem_of_getElem? e)
theorem swW_24 {y : Yd} (hN : Names y) {x : Sw} (h : x.n.size ≤ 24 ∧ x.k.size ≤ 24) : ∀ z ∈ swW y x, z.size ≤ 24 := fun z hz => by
  simp only [swW, List.mem_append, List.mem_cons, List.not_mem_nil, or_false] at hz
  rcases hz with (((rfl | rfl | rfl) | hz) | rfl)
  · exact h.2
  · exact h.1
  · exact nmS_24 hN _
  · split at hz
    · cases hz
    · simp at hz; subst hz; exact nmS_24 hN _
  · split <;> decide
theorem pmW_24 {y : Yd} (hN : Names y) {x : Pm} (h : x.n.size ≤ 24) : ∀ z ∈ pmW y x, z.size ≤ 24 := fun z hz => by
  simp only [pmW, List.mem_cons, List.not_mem_nil, or_false] at hz
  rcases hz with rfl | rfl | rfl
  · decide
  · exact h
  · exact nmS_24 hN _
theorem swW_len (y : Yd) (x : Sw) : (swW y x).length ≤ 5 := by
  unfold swW; split <;> simp
/-- What has been printed is short. -/
theorem printL_len {y : Yd} (hN : Names y) (h : y.s.length ≤ 9 ∧ y.w.length ≤ 9) (j k : Nat) : ((y.s.take j).flatMap fun x => lineL (secW x)).length ≤ 1200 ∧ ((y.w.take k).flatMap fun x => lineL (swW y x)).length ≤ 1200 ∧ (∀ x ∈ y.s, (lineL (secW x)).length ≤ 126) ∧ (∀ x ∈ y.w, (lineL (swW y x)).length ≤ 126) ∧ (∀ x ∈ y.p, (lineL (pmW y x)).length ≤ 126) := by
  have h1 : ∀ x ∈ y.s, (lineL (secW x)).length ≤ 126 := fun x hx => by have := line_len (secW_24 (hN.s x hx)); have e : (secW x).length = 3 := rfl; omega
  have h2 : ∀ x ∈ y.w, (lineL (swW y x)).length ≤ 126 := fun x hx => by have := line_len (swW_24 hN (hN.w x hx)); have := swW_len y x; omega
  have h3 : ∀ x ∈ y.p, (lineL (pmW y x)).length ≤ 126 := fun x hx => by have := line_len (pmW_24 hN (hN.p x hx)); have e : (pmW y x).length = 3 := rfl; omega
  have l1 := fm_len (l := y.s.take j) (fun x hx => h1 x (List.mem_of_mem_take hx))
  have l2 := fm_len (l := y.w.take k) (fun x hx => h2 x (List.mem_of_mem_take hx))
  have t1 := List.length_take_le j y.s
  have t1' := List.length_take_le' j y.s
  have t2' := List.length_take_le' k y.w
  exact ⟨by omega, by omega, h1, h2, h3⟩
def printS (y : Yd) : ByteArray := if yardE y = 0 then ⟨(printL y).toArray⟩ else ⟨#[]⟩
set_option maxRecDepth 100000 in
set_option maxHeartbeats 2000000 in
theorem Print_any (B : Nat) (A0 A1 A2 : Option Addr) (n0 n1 n2 c0 c1 c2 : Nat) (y : Yd) (w : World) (hY : YdAt w B A0 A1 A2 n0 n1 n2 y) (hB : B ≤ w.heap.size) (hT : Tabs w) (hF : Fits y) : Calls Tryz.prog 73 #[.agg #[.slice A0 n0 c0, .slice A1 n1 c1, .slice A2 n2 c2]] w fun e w' => e = .returned (.tuple #[.string (printS y), .int .i64 (yardE y)]) ∧ Below w.heap.size w w' := by
  obtain ⟨hl0, ha0⟩ := sec_at hY.hs
  obtain ⟨hl1, ha1⟩ := sw_at hY.hw
  obtain ⟨hl2, ha2⟩ := pm_at hY.hp
  have H1 := Lib.hid (fun W (hW : Below w.heap.size w W) => CheckYard_any B A0 A1 A2 n0 n1 n2 c0 c1 c2 y W (hY.below (hW.mono hB)) (by have := hW.size; omega) (hT.kept hW) hF)
  unfold printS
  cases he : (yardE y != 0) with
  | true =>
    have HE := Lib.hid (show yardE y ≠ 0 by simpa using he)
    rw [if_neg HE.out]
    clear hY hT hF ha0 ha1 ha2 hl0 hl1 hl2
    generalize yardE y = ee at *
    go_enter Tryz.func73, Tryz.ntmps73
    go_wp2_with fail
    refine (H1.out _ bl_).mono ?_
    (rintro e w1 ⟨rfl, hb1⟩; have hs1 := hb1.size; (try simp at hs1))
    go_wp2_with fail
    go_ret2
    exact ⟨rfl, bl_⟩
  | false =>
    have HE := Lib.hid (show yardE y = 0 by simpa using he)
    have hP := Lib.hid (yard_ok HE.out).1
    have hN := Lib.hid (names_of HE.out)
    rw [if_pos HE.out, HE.out]
    rw [HE.out] at H1
    have HPr : Hid (printL y = (y.s.flatMap fun x => lineL (secW x)) ++ (y.w.flatMap fun x => lineL (swW y x)) ++ (y.p.flatMap fun x => lineL (pmW y x))) := Lib.hid rfl
    have hPL := Lib.hid (fun j k => printL_len hN.out ⟨hF.s9, hF.w9⟩ j k)
    have h9 := hF.s9
    have h9' := hF.w9
    have h9'' := hF.p9
    have HA0 := Lib.hid ha0
    have HA1 := Lib.hid ha1
    have HA2 := Lib.hid ha2
    have HL0 := Lib.hid hl0
    have HL1 := Lib.hid hl1
    have HL2 := Lib.hid hl2
    clear he HE hT hF hY ha0 ha1 ha2 hl0 hl1 hl2
    go_enter Tryz.func73, Tryz.ntmps73
    go_wp2_with fail
    refine (H1.out _ bl_).mono ?_
    (rintro e w1 ⟨rfl, hb1⟩; have hs1 := hb1.size; (try simp at hs1))
    obtain ⟨hc1, hf1⟩ := ifs_of hb1; have hs1 := hb1.size; (try simp at hs1)
    go_wp2_with fail
    go_loopw [5, 21] (fun s i wr => ∃ k : Nat, k ≤ n0 ∧ i = .int .i64 k ∧ s = .string ⟨((y.s.take k).flatMap fun x => lineL (secW x)).toArray⟩ ∧ Blk wr w.heap.size 41 #[.slice A0 n0 c0, .slice A1 n1 c1, .slice A2 n2 c2] ∧ Below w.heap.size w wr) (fun _ i _ => n0 - (intOf i).toNat)
    case atStart => exact ⟨0, by omega, rfl, rfl, bk_, bl_⟩
    case round =>
      obtain ⟨k, hk, rfl, rfl, bY, hb⟩ := hrel
      have hsr := hb.size
      have cY := bY.cell
      have lY := bY.lt
      have BY := Lib.hid bY
      clear bY
      by_cases hlt : k < n0
      · have hkl : k < y.s.length := by rw [HL0.out]; exact hlt
        obtain ⟨b, o, eA, hbb, z0, z1⟩ := HA0.out k hkl
        have kb : ∀ i, wr.cell? ⟨b, i, none⟩ = w.cell? ⟨b, i, none⟩ := fun i => hb.cell (p := ⟨b, i, none⟩) (by simp; omega)
        rw [← kb] at z0 z1
        clear kb
        subst eA
        have HS := Lib.hid (fm_take (fun x => lineL (secW x)) y.s k hkl)
        have hz := Lib.hid (hN.out.s y.s[k] (List.getElem_mem hkl))
        have hsl := Lib.hid ((hPL.out k 0).2.2.1 y.s[k] (List.getElem_mem hkl))
        have htx := Lib.hid (hPL.out k 0).1
        generalize ((y.s.take k).flatMap fun x => lineL (secW x)) = tx at *
        generalize y.s[k] = x at *
        obtain ⟨xn, xs⟩ := x
        dsimp only at z0 z1 hz hsl
        have hcat : ¬ (9223372036854775807 : Nat) < tx.length + (lineL (secW ⟨xn, xs⟩)).length := by
          have := htx.out
          have := hsl.out
          omega
        have HEi := Lib.hid (fun W => either_any xs ⟨#[115, 111, 117, 114, 99, 101]⟩ ⟨#[112, 108, 97, 105, 110]⟩ W)
        have HLn := Lib.hid (fun W b hr => lineW_any (secW ⟨xn, xs⟩) 3 3 b W (secW_24 hz.out) rfl (by decide) (by decide) (by decide) hr)
        generalize hwd : (if xs then (⟨#[115, 111, 117, 114, 99, 101]⟩ : ByteArray) else ⟨#[112, 108, 97, 105, 110]⟩) = wd at *
        have HWD : Hid ((secW ⟨xn, xs⟩).map Value.string = [Value.string ⟨#[115, 101, 99, 116, 105, 111, 110]⟩, .string xn, .string wd]) := by show _ = _; rw [← hwd]; rfl
        rw [HWD.out] at HLn
        clear hwd hz
        generalize lineL (secW ⟨xn, xs⟩) = ln at *
        go_wp2_with fail
        (refine wp_region_calm [] [0, 1, 2, 3, 4, 5] 4 (by kernel_rfl) rfl (by kernel_rfl) (by kernel_rfl) (by kernel_rfl) ?_; simp only [pickB, List.filterMap_cons, List.filterMap_nil, List.getElem?_toArray, List.getElem?_cons_zero, List.getElem?_cons_succ]; (repeat (first | ((first | (with_reducible refine quietL_plain rfl (fun K hK => ?_)) | (with_reducible refine quietL_want (by with_unfolding_all rfl) (fun K hK => ?_))); (apply Exists.intro; refine ⟨fun wx hx => ?_, ?_⟩; (· (have hcx := ifs_ex hx); simp [go_sem, *, ↓IntWalk.iteOmega] <;> (first | rfl | exact ⟨rfl, rfl⟩ | (exact calls_B (calls_below (HEi.out _))))); (simp only [Act.put, List.setIfInBounds_toArray, List.set_cons_zero, List.set_cons_succ]; refine hK _ ?_; clear hK K))) | ((with_reducible refine quietL_skip (by with_unfolding_all rfl) ?_); simp only [Act.put, List.setIfInBounds_toArray, List.set_cons_zero, List.set_cons_succ]))); refine quietL_nil ?_)
        (refine anyB_one (i := 6) (by kernel_rfl) rfl rfl ?_; intro w2 hb2 K hK; obtain ⟨hc2, hf2⟩ := ifs_of hb2; have hs2 := hb2.size; (try simp at hs2); go_wp2; refine ⟨xs_, ?_⟩)
        (refine anyB_one (i := 7) (by kernel_rfl) rfl rfl ?_; intro w3 hb3 K hK; obtain ⟨hc3, hf3⟩ := ifs_of hb3; have hs3 := hb3.size; (try simp at hs3); go_wp2_with fail)
        refine (HLn.out _ w2.heap.size (((by simpa using Reads.new (size := 1) w2 #[Value.string ⟨#[115, 101, 99, 116, 105, 111, 110]⟩, .string xn, .string wd] 9 3 rfl : Reads (w2.alloc (.cells #[Value.string ⟨#[115, 101, 99, 116, 105, 111, 110]⟩, .string xn, .string wd] 9)) (w2.heap.size + 1) 1 (some ⟨w2.heap.size, 0, none⟩) 3 [Value.string ⟨#[115, 101, 99, 116, 105, 111, 110]⟩, .string xn, .string wd]).below (hb3.mono (by simp))).more (by simpa using hs3))).mono ?_
        (rintro e w4 ⟨rfl, hb4⟩; have hs4 := hb4.size; (try simp at hs4))
        obtain ⟨hc4, hf4⟩ := ifs_of hb4; have hs4 := hb4.size; (try simp at hs4)
        (go_wp2; refine ⟨xs_, ?_⟩)
        (refine anyB_one (i := 8) (by kernel_rfl) rfl rfl ?_; intro w5 hb5 K hK; obtain ⟨hc5, hf5⟩ := ifs_of hb5; have hs5 := hb5.size; (try simp at hs5); go_wp2; refine ⟨xs_, ?_⟩)
        (refine anyB_one (i := 9) (by kernel_rfl) rfl rfl ?_; intro w6 hb6 K hK; obtain ⟨hc6, hf6⟩ := ifs_of hb6; have hs6 := hb6.size; (try simp at hs6); go_wp2; refine ⟨xs_, ?_⟩)
        (refine anyB_end (by kernel_rfl) ?_; intro w7 hb7; obtain ⟨hc7, hf7⟩ := ifs_of hb7; have hs7 := hb7.size; (try simp at hs7); simp only [Calm]; go_wp2_with fail)
        go_roundw
        case rel => exact ⟨k + 1, by omega, by go_num, by rw [HS.out, ← ba_app], BY.out.kept bl_, bl_⟩
        case measure => simp [intOf]; omega
      · obtain rfl : k = n0 := by omega
        have hT1 : Hid ((y.s.take k).flatMap (fun x => lineL (secW x)) = y.s.flatMap fun x => lineL (secW x)) := by show _ = _; rw [List.take_of_length_le (by rw [HL0.out]; exact Nat.le_refl _)]
        have hlen1 := Lib.hid (hPL.out k 0).1
        rw [hT1.out] at hlen1 ⊢
        generalize (y.s.flatMap fun x => lineL (secW x)) = T1 at *
        clear hlt hk hT1
        go_wp2_with fail
        go_loopw [5, 38] (fun s i wr => ∃ j : Nat, j ≤ n1 ∧ i = .int .i64 j ∧ s = .string ⟨(T1 ++ ((y.w.take j).flatMap fun x => lineL (swW y x))).toArray⟩ ∧ Blk wr w.heap.size 41 #[.slice A0 k c0, .slice A1 n1 c1, .slice A2 n2 c2] ∧ Below w.heap.size w wr) (fun _ i _ => n1 - (intOf i).toNat)
        case atStart => exact ⟨0, by omega, rfl, by simp, BY.out, hb⟩
        case round =>
          clear cY lY hb hsr BY
          obtain ⟨j, hk, rfl, rfl, bY, hb⟩ := hrel
          have hsr := hb.size
          have cY := bY.cell
          have lY := bY.lt
          have BY := Lib.hid bY
          clear bY
          by_cases hlt : j < n1
          · have hkl : j < y.w.length := by rw [HL1.out]; exact hlt
            obtain ⟨b, o, eA, hbb, z0, z1, z2, z3, z4⟩ := HA1.out j hkl
            have kb : ∀ b i, b < B → wr.cell? ⟨b, i, none⟩ = w.cell? ⟨b, i, none⟩ := fun b i h => hb.cell (p := ⟨b, i, none⟩) (by simp; omega)
            rw [← kb b _ hbb] at z0 z1 z2 z3 z4
            subst eA
            have HS := Lib.hid (fm_take (fun x => lineL (swW y x)) y.w j hkl)
            have hz := Lib.hid (hN.out.w y.w[j] (List.getElem_mem hkl))
            have hsl := Lib.hid ((hPL.out 0 j).2.2.2.1 y.w[j] (List.getElem_mem hkl))
            have hxa := hP.out.sa y.w[j] (List.getElem_mem hkl)
            have hxb := Lib.hid (hP.out.sb y.w[j] (List.getElem_mem hkl))
            have htx := Lib.hid (hPL.out 0 j).2.1
            generalize ((y.w.take j).flatMap fun x => lineL (swW y x)) = tx at *
            generalize y.w[j] = x at *
            obtain ⟨xn, xk, xa, xb, xc⟩ := x
            dsimp only at z0 z1 z2 z3 z4 hz hsl hxa hxb
            have hcat : ¬ (9223372036854775807 : Nat) < T1.length + tx.length + (lineL (swW y ⟨xn, xk, xa, xb, xc⟩)).length := by
              have := htx.out
              have := hsl.out
              have := hlen1.out
              omega
            have hcat2 : ¬ (9223372036854775807 : Nat) < (T1 ++ tx).length + (lineL (swW y ⟨xn, xk, xa, xb, xc⟩)).length := by rw [List.length_append]; exact hcat
            obtain ⟨ia, rfl⟩ := Int.eq_ofNat_of_zero_le hxa.1
            have hia : ia < y.s.length := by omega
            have hiak : (ia : Int) < (k : Int) := by have := HL0.out; omega
            obtain ⟨b2, o2, eA2, hbb2, u0, u1⟩ := HA0.out ia hia
            rw [← kb b2 _ hbb2] at u0
            clear u1
            have HNA := Lib.hid (nmS_get hia)
            rw [← HNA.out] at u0
            subst eA2
            have hbw : b < wr.heap.size := by omega
            have hbw2 : b2 < wr.heap.size := by omega
            cases h0 : (xk.toList == [101, 97, 114, 116, 104]) with
            | true =>
              have HEi := Lib.hid (fun W => either_any xc ⟨#[99, 108, 111, 115, 101, 100]⟩ ⟨#[111, 112, 101, 110]⟩ W)
              generalize hwd : (if xc then (⟨#[99, 108, 111, 115, 101, 100]⟩ : ByteArray) else ⟨#[111, 112, 101, 110]⟩) = wd at *
              have HWD : Hid ((swW y ⟨xn, xk, ia, xb, xc⟩).map Value.string = [Value.string xk, Value.string xn, Value.string (nmS y (ia : Int))] ++ [.string wd]) := by show _ = _; unfold swW; rw [show (xk.toList == earthL) = true from h0, hwd]; rfl
              have HLn := Lib.hid (fun W b c hc hr => lineW_any (swW y ⟨xn, xk, ia, xb, xc⟩) 4 c b W (swW_24 hN.out hz.out) (by unfold swW; rw [show (xk.toList == earthL) = true from h0]; rfl) (by decide) (by decide) hc hr)
              rw [HWD.out] at HLn
              clear hwd hz
              generalize lineL (swW y ⟨xn, xk, ia, xb, xc⟩) = ln at *
              generalize nmS y (ia : Int) = na at *
              clear HNA hxb kb
              go_wp2_with fail
              (refine wp_region_calm [] [0, 1, 2, 3, 4, 5, 6, 7, 8, 9, 10] 2 (by kernel_rfl) rfl (by kernel_rfl) (by kernel_rfl) (by kernel_rfl) ?_; simp only [pickB, List.filterMap_cons, List.filterMap_nil, List.getElem?_toArray, List.getElem?_cons_zero, List.getElem?_cons_succ]; (repeat (first | ((first | (with_reducible refine quietL_plain rfl (fun K hK => ?_)) | (with_reducible refine quietL_want (by with_unfolding_all rfl) (fun K hK => ?_))); (apply Exists.intro; refine ⟨fun wx hx => ?_, ?_⟩; (· (have hcx := ifs_ex hx); simp [go_sem, *, ↓IntWalk.iteOmega] <;> (first | rfl | exact ⟨rfl, rfl⟩ | fail)); (simp only [Act.put, List.setIfInBounds_toArray, List.set_cons_zero, List.set_cons_succ]; refine hK _ ?_; clear hK K))) | ((with_reducible refine quietL_skip (by with_unfolding_all rfl) ?_); simp only [Act.put, List.setIfInBounds_toArray, List.set_cons_zero, List.set_cons_succ]))); refine quietL_nil ?_)
              (refine anyB_one (i := 11) (by kernel_rfl) rfl rfl ?_; intro w2 hb2 K hK; obtain ⟨hc2, hf2⟩ := ifs_of hb2; have hs2 := hb2.size; (try simp at hs2); go_wp2; refine ⟨xs_, ?_⟩)
              have HOl := Lib.hid (Own.new w2 w.heap.size 9 1 3 #[.string xk, .string xn, .string na] (by have := hb2.size; simp at this; omega) rfl (by decide))
              (refine anyB_one (i := 12) (by kernel_rfl) rfl rfl ?_; intro w3 hb3 K hK; obtain ⟨hc3, hf3⟩ := ifs_of hb3; have hs3 := hb3.size; (try simp at hs3); go_wp2; refine ⟨xs_, ?_⟩)
              (refine anyB_end (by kernel_rfl) ?_; intro w4 hb4; obtain ⟨hc4, hf4⟩ := ifs_of hb4; have hs4 := hb4.size; (try simp at hs4); simp only [Calm]; go_wp2_with fail)
              have HO4 := Lib.hid ((HOl.out.kept hb3).kept hb4)
              have HY4 := Lib.hid (BY.out.kept (bl_ : Below wr.heap.size wr w4))
              have HB4 := Lib.hid (bl_ : Below w.heap.size w w4)
              clear hb2 hb3 hb4 HOl
              refine (HEi.out _).mono ?_
              rintro e wu ⟨rfl, rfl⟩
              go_wp2_with (at_builtin; refine wpList_app 56 9 1 16 elemStr rfl (.tmp 68) (.tmp 72) rfl w.heap.size _ 3 _ rfl HO4.out 1 rfl rfl ?hq1 (by decide) ?hq3 (by omega) (by omega) ?_)
              case hq1 => rfl
              case hq3 => unfold maxLen; omega
              intro g9 cap9 w9 hown9 hb9 hk9 hs9
              have bY9 := hk9 _ _ _ HY4.out (row_own_neW HO4.out HY4.out (by decide))
              obtain ⟨A9, c9, e9, hcap9, _, hrd9⟩ := own_form hown9
              cases e9
              have HBY9 := Lib.hid bY9
              have HRD9 := Lib.hid hrd9
              have HB9 := Lib.hid (HB4.out.trans hb9)
              have hsz9 := HB9.out.size
              clear hown9 hk9 bY9 hrd9 hb9
              go_wp2_with fail
              refine (HLn.out _ g9 cap9 hcap9 (by exact HRD9.out)).mono ?_
              (rintro e wa ⟨rfl, hba⟩; have hsa := hba.size; (try simp at hsa))
              obtain ⟨hca, hfa⟩ := ifs_of hba; have hsa := hba.size; (try simp at hsa)
              go_wp2_with fail
              go_roundw
              case rel => exact ⟨j + 1, by omega, by go_num, by rw [HS.out, ← List.append_assoc, ← ba_app (T1 ++ tx) ln, ← ba_app T1 tx], HBY9.out.kept bl_, HB9.out.trans (hba.mono hsz9)⟩
              case measure => simp [intOf]; omega
            | false =>
              obtain ⟨b0, b1⟩ := hxb.out h0
              obtain ⟨ib, rfl⟩ := Int.eq_ofNat_of_zero_le b0
              have hib : ib < y.s.length := by omega
              have hibk : (ib : Int) < (k : Int) := by have := HL0.out; omega
              obtain ⟨b3, o3, eA3, hbb3, v0, v1⟩ := HA0.out ib hib
              rw [← kb b3 _ hbb3] at v0
              clear v1
              have HNB := Lib.hid (nmS_get hib)
              rw [← HNB.out] at v0
              cases eA3
              have HEi := Lib.hid (fun W => either_any xc ⟨#[99, 108, 111, 115, 101, 100]⟩ ⟨#[111, 112, 101, 110]⟩ W)
              generalize hwd : (if xc then (⟨#[99, 108, 111, 115, 101, 100]⟩ : ByteArray) else ⟨#[111, 112, 101, 110]⟩) = wd at *
              have HWD : Hid ((swW y ⟨xn, xk, ia, (ib : Int), xc⟩).map Value.string = [Value.string xk, Value.string xn, Value.string (nmS y (ia : Int)), Value.string (nmS y (ib : Int))] ++ [.string wd]) := by show _ = _; unfold swW; rw [show (xk.toList == earthL) = false from h0, hwd]; rfl
              have HLn := Lib.hid (fun W b c hc hr => lineW_any (swW y ⟨xn, xk, ia, (ib : Int), xc⟩) 5 c b W (swW_24 hN.out hz.out) (by unfold swW; rw [show (xk.toList == earthL) = false from h0]; rfl) (by decide) (by decide) hc hr)
              rw [HWD.out] at HLn
              clear hwd hz
              generalize lineL (swW y ⟨xn, xk, ia, (ib : Int), xc⟩) = ln at *
              generalize nmS y (ia : Int) = na at *
              generalize nmS y (ib : Int) = nb at *
              clear HNA HNB hxb kb
              go_wp2_with fail
              (refine wp_region_calm [] [0, 1, 2, 3, 4, 5, 6, 7, 8, 9, 10] 2 (by kernel_rfl) rfl (by kernel_rfl) (by kernel_rfl) (by kernel_rfl) ?_; simp only [pickB, List.filterMap_cons, List.filterMap_nil, List.getElem?_toArray, List.getElem?_cons_zero, List.getElem?_cons_succ]; (repeat (first | ((first | (with_reducible refine quietL_plain rfl (fun K hK => ?_)) | (with_reducible refine quietL_want (by with_unfolding_all rfl) (fun K hK => ?_))); (apply Exists.intro; refine ⟨fun wx hx => ?_, ?_⟩; (· (have hcx := ifs_ex hx); simp [go_sem, *, ↓IntWalk.iteOmega] <;> (first | rfl | exact ⟨rfl, rfl⟩ | fail)); (simp only [Act.put, List.setIfInBounds_toArray, List.set_cons_zero, List.set_cons_succ]; refine hK _ ?_; clear hK K))) | ((with_reducible refine quietL_skip (by with_unfolding_all rfl) ?_); simp only [Act.put, List.setIfInBounds_toArray, List.set_cons_zero, List.set_cons_succ]))); refine quietL_nil ?_)
              (refine anyB_one (i := 11) (by kernel_rfl) rfl rfl ?_; intro w2 hb2 K hK; obtain ⟨hc2, hf2⟩ := ifs_of hb2; have hs2 := hb2.size; (try simp at hs2); go_wp2; refine ⟨xs_, ?_⟩)
              have HOl := Lib.hid (Own.new w2 w.heap.size 9 1 3 #[.string xk, .string xn, .string na] (by have := hb2.size; simp at this; omega) rfl (by decide))
              (refine anyB_one (i := 12) (by kernel_rfl) rfl rfl ?_; intro w3 hb3 K hK; obtain ⟨hc3, hf3⟩ := ifs_of hb3; have hs3 := hb3.size; (try simp at hs3); go_wp2; refine ⟨xs_, ?_⟩)
              (refine anyB_end (by kernel_rfl) ?_; intro w4 hb4; obtain ⟨hc4, hf4⟩ := ifs_of hb4; have hs4 := hb4.size; (try simp at hs4); simp only [Calm])
              have HO4 := Lib.hid ((HOl.out.kept hb3).kept hb4)
              have HY4 := Lib.hid (BY.out.kept (bl_ : Below wr.heap.size wr w4))
              have HB4 := Lib.hid (bl_ : Below w.heap.size w w4)
              have HX4 := Lib.hid (show Blk w4 wr.heap.size 70 #[.string xn, .string xk, .int .i64 (ia : Int), .int .i64 (ib : Int), .bool xc] from bk_)
              clear hb2 hb3 hb4 HOl
              go_wp2_with (at_builtin; refine wpList_app 56 9 1 16 elemStr rfl (.tmp 57) (.tmp 65) rfl w.heap.size _ 3 _ rfl HO4.out 1 rfl rfl ?hp1 (by decide) ?hp3 (by omega) (by omega) ?_)
              case hp1 => rfl
              case hp3 => unfold maxLen; omega
              intro g5 cap5 w5 hown5 hb5 hk5 hs5
              have bY5 := hk5 _ _ _ HY4.out (row_own_neW HO4.out HY4.out (by decide))
              have bX5 := hk5 _ _ _ HX4.out (row_own_neW HO4.out HX4.out (by decide))
              have HO5 := Lib.hid hown5
              have HY5 := Lib.hid bY5
              have HB5 := Lib.hid (HB4.out.trans hb5)
              have c5 := bX5.cell
              have l5 := bX5.lt
              have hsz5 := HB5.out.size
              clear hown5 hk5 bY5 bX5 hb5
              go_wp2_with fail
              refine (HEi.out _).mono ?_
              rintro e wu ⟨rfl, rfl⟩
              go_wp2_with (at_builtin; refine wpList_app 56 9 1 16 elemStr rfl (.tmp 68) (.tmp 72) rfl w.heap.size _ 4 _ rfl HO5.out 1 rfl rfl ?hq1 (by decide) ?hq3 (by omega) (by omega) ?_)
              case hq1 => rfl
              case hq3 => unfold maxLen; omega
              intro g9 cap9 w9 hown9 hb9 hk9 hs9
              have bY9 := hk9 _ _ _ HY5.out (row_own_neW HO5.out HY5.out (by decide))
              obtain ⟨A9, c9, e9, hcap9, _, hrd9⟩ := own_form hown9
              cases e9
              have HBY9 := Lib.hid bY9
              have HRD9 := Lib.hid hrd9
              have HB9 := Lib.hid (HB5.out.trans hb9)
              have hsz9 := HB9.out.size
              clear hown9 hk9 bY9 hrd9 hb9
              go_wp2_with fail
              refine (HLn.out _ g9 cap9 hcap9 (by exact HRD9.out)).mono ?_
              (rintro e wa ⟨rfl, hba⟩; have hsa := hba.size; (try simp at hsa))
              obtain ⟨hca, hfa⟩ := ifs_of hba; have hsa := hba.size; (try simp at hsa)
              go_wp2_with fail
              go_roundw
              case rel => exact ⟨j + 1, by omega, by go_num, by rw [HS.out, ← List.append_assoc, ← ba_app (T1 ++ tx) ln, ← ba_app T1 tx], HBY9.out.kept bl_, HB9.out.trans (hba.mono hsz9)⟩
              case measure => simp [intOf]; omega
          · obtain rfl : j = n1 := by omega
            have hT2 : Hid ((y.w.take j).flatMap (fun x => lineL (swW y x)) = y.w.flatMap fun x => lineL (swW y x)) := by show _ = _; rw [List.take_of_length_le (by rw [HL1.out]; exact Nat.le_refl _)]
            have hlen2 := Lib.hid (hPL.out 0 j).2.1
            rw [hT2.out] at hlen2 ⊢
            generalize (y.w.flatMap fun x => lineL (swW y x)) = T2 at *
            clear hlt hk hT2
            go_wp2_with fail
            go_loopw [5, 80] (fun s i wr => ∃ q : Nat, q ≤ n2 ∧ i = .int .i64 q ∧ s = .string ⟨(T1 ++ T2 ++ ((y.p.take q).flatMap fun x => lineL (pmW y x))).toArray⟩ ∧ Blk wr w.heap.size 41 #[.slice A0 k c0, .slice A1 j c1, .slice A2 n2 c2] ∧ Below w.heap.size w wr) (fun _ i _ => n2 - (intOf i).toNat)
            case atStart => exact ⟨0, by omega, rfl, by simp, BY.out, hb⟩
            case round =>
              clear cY lY hb hsr BY
              obtain ⟨q, hk, rfl, rfl, bY, hb⟩ := hrel
              have hsr := hb.size
              have cY := bY.cell
              have lY := bY.lt
              have BY := Lib.hid bY
              clear bY
              by_cases hlt : q < n2
              · have hkl : q < y.p.length := by rw [HL2.out]; exact hlt
                obtain ⟨b, o, eA, hbb, z0, z1⟩ := HA2.out q hkl
                have kb : ∀ b i, b < B → wr.cell? ⟨b, i, none⟩ = w.cell? ⟨b, i, none⟩ := fun b i h => hb.cell (p := ⟨b, i, none⟩) (by simp; omega)
                rw [← kb b _ hbb] at z0 z1
                subst eA
                have HS := Lib.hid (fm_take (fun x => lineL (pmW y x)) y.p q hkl)
                have hz := Lib.hid (hN.out.p y.p[q] (List.getElem_mem hkl))
                have hsl := Lib.hid ((hPL.out 0 0).2.2.2.2 y.p[q] (List.getElem_mem hkl))
                have hxs := hP.out.ps y.p[q] (List.getElem_mem hkl)
                have htx : Hid (((y.p.take q).flatMap fun x => lineL (pmW y x)).length ≤ 1200) := by
                  have h1 := fm_len (l := y.p.take q) (fun x hx => (hPL.out 0 0).2.2.2.2 x (List.mem_of_mem_take hx))
                  have h2 := List.length_take_le' q y.p
                  show _ ≤ _
                  omega
                generalize ((y.p.take q).flatMap fun x => lineL (pmW y x)) = tx at *
                generalize y.p[q] = x at *
                obtain ⟨xn, xs⟩ := x
                dsimp only at z0 z1 hz hsl hxs
                have hcat : ¬ (9223372036854775807 : Nat) < T1.length + T2.length + tx.length + (lineL (pmW y ⟨xn, xs⟩)).length := by
                  have := htx.out
                  have := hsl.out
                  have := hlen1.out
                  have := hlen2.out
                  omega
                obtain ⟨ia, rfl⟩ := Int.eq_ofNat_of_zero_le hxs.1
                have hia : ia < y.s.length := by omega
                have hiak : (ia : Int) < (k : Int) := by have := HL0.out; omega
                obtain ⟨b2, o2, eA2, hbb2, u0, u1⟩ := HA0.out ia hia
                rw [← kb b2 _ hbb2] at u0
                clear u1
                have HNA := Lib.hid (nmS_get hia)
                rw [← HNA.out] at u0
                subst eA2
                have hbw : b < wr.heap.size := by omega
                have hbw2 : b2 < wr.heap.size := by omega
                have HLn := Lib.hid (fun W b hr => lineW_any (pmW y ⟨xn, ia⟩) 3 3 b W (pmW_24 hN.out hz.out) rfl (by decide) (by decide) (by decide) hr)
                have HWD : Hid ((pmW y ⟨xn, ia⟩).map Value.string = [Value.string ⟨#[112, 101, 114, 109, 105, 116]⟩, .string xn, .string (nmS y (ia : Int))]) := Lib.hid rfl
                rw [HWD.out] at HLn
                generalize lineL (pmW y ⟨xn, ia⟩) = ln at *
                clear hz HWD
                generalize nmS y (ia : Int) = na at *
                clear HNA kb
                go_wp2_with fail
                (refine wp_region_calm [] [0, 1, 2, 3, 4, 5, 6, 7, 8, 9] 4 (by kernel_rfl) rfl (by kernel_rfl) (by kernel_rfl) (by kernel_rfl) ?_; simp only [pickB, List.filterMap_cons, List.filterMap_nil, List.getElem?_toArray, List.getElem?_cons_zero, List.getElem?_cons_succ]; (repeat (first | ((first | (with_reducible refine quietL_plain rfl (fun K hK => ?_)) | (with_reducible refine quietL_want (by with_unfolding_all rfl) (fun K hK => ?_))); (apply Exists.intro; refine ⟨fun wx hx => ?_, ?_⟩; (· (have hcx := ifs_ex hx); simp [go_sem, *, ↓IntWalk.iteOmega] <;> (first | rfl | exact ⟨rfl, rfl⟩ | fail)); (simp only [Act.put, List.setIfInBounds_toArray, List.set_cons_zero, List.set_cons_succ]; refine hK _ ?_; clear hK K))) | ((with_reducible refine quietL_skip (by with_unfolding_all rfl) ?_); simp only [Act.put, List.setIfInBounds_toArray, List.set_cons_zero, List.set_cons_succ]))); refine quietL_nil ?_)
                (refine anyB_one (i := 10) (by kernel_rfl) rfl rfl ?_; intro w2 hb2 K hK; obtain ⟨hc2, hf2⟩ := ifs_of hb2; have hs2 := hb2.size; (try simp at hs2); go_wp2; refine ⟨xs_, ?_⟩)
                (refine anyB_one (i := 11) (by kernel_rfl) rfl rfl ?_; intro w3 hb3 K hK; obtain ⟨hc3, hf3⟩ := ifs_of hb3; have hs3 := hb3.size; (try simp at hs3); go_wp2_with fail)
                refine (HLn.out _ w2.heap.size (((by simpa using Reads.new (size := 1) w2 #[Value.string ⟨#[112, 101, 114, 109, 105, 116]⟩, .string xn, .string na] 9 3 rfl : Reads (w2.alloc (.cells #[Value.string ⟨#[112, 101, 114, 109, 105, 116]⟩, .string xn, .string na] 9)) (w2.heap.size + 1) 1 (some ⟨w2.heap.size, 0, none⟩) 3 [Value.string ⟨#[112, 101, 114, 109, 105, 116]⟩, .string xn, .string na]).below (hb3.mono (by simp))).more (by simpa using hs3))).mono ?_
                (rintro e w4 ⟨rfl, hb4⟩; have hs4 := hb4.size; (try simp at hs4))
                obtain ⟨hc4, hf4⟩ := ifs_of hb4; have hs4 := hb4.size; (try simp at hs4)
                (go_wp2; refine ⟨xs_, ?_⟩)
                (refine anyB_one (i := 12) (by kernel_rfl) rfl rfl ?_; intro w5 hb5 K hK; obtain ⟨hc5, hf5⟩ := ifs_of hb5; have hs5 := hb5.size; (try simp at hs5); go_wp2; refine ⟨xs_, ?_⟩)
                (refine anyB_one (i := 13) (by kernel_rfl) rfl rfl ?_; intro w6 hb6 K hK; obtain ⟨hc6, hf6⟩ := ifs_of hb6; have hs6 := hb6.size; (try simp at hs6); go_wp2; refine ⟨xs_, ?_⟩)
                (refine anyB_end (by kernel_rfl) ?_; intro w7 hb7; obtain ⟨hc7, hf7⟩ := ifs_of hb7; have hs7 := hb7.size; (try simp at hs7); simp only [Calm]; go_wp2_with fail)
                go_roundw
                case rel => exact ⟨q + 1, by omega, by go_num, by rw [HS.out]; exact congrArg Value.string (by apply ByteArray.ext; simp [List.append_assoc]), BY.out.kept bl_, bl_⟩
                case measure => simp [intOf]; omega
              · obtain rfl : q = n2 := by omega
                have hT3 : Hid ((y.p.take q).flatMap (fun x => lineL (pmW y x)) = y.p.flatMap fun x => lineL (pmW y x)) := by show _ = _; rw [List.take_of_length_le (by rw [HL2.out]; exact Nat.le_refl _)]
                rw [hT3.out]
                go_wp2_with fail
                go_ret2
                exact ⟨by rw [HPr.out]; rfl, bl_⟩
end Go.Proofs.YtphlojgmfkgeiaaGreatDoor
