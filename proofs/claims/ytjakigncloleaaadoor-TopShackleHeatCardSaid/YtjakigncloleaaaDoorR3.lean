/- A drawn region, further on: quiet operations at whatever state, whatever else is waiting. -/
import Derived.Test.YtjakigncloleaaaDoorR2
import Derived.Test.YtjakigncloleaaaDoorA2
import Derived.Deep.AppendLies
namespace Go.Proofs.YtjakigncloleaaaDoor
open Go Go.RowKit Go.Sort
section
variable {P : Program} {ops : Array Oper} {md : Region.Mode} {Q : Exit → Act → World → Prop} {w0 w1 : World} {X : List Nat}
theorem anyB_quiet_at (hsel : Region.noSelect ops = true) (hQ : ∀ d v c a w, Q (.panic c) (Act.put a d v) w → Q (.panic c) a w) (hw : Ex X w0 w1) (fuel : Nat) : ∀ (is : List Nat) (listed : Array Bool) (a : Act), okB md ops is listed = true → (∀ i ∈ is, i < ops.size) →
    quietL P ops X w0 (fun a' => anyB P md ops Q X w0 fuel (setB is listed) a' w1) (pickB ops is) a → anyB P md ops Q X w0 (is.length + fuel) listed a w1
  | [], listed, a, _, _, h => by rw [List.length_nil, Nat.zero_add]; exact h
  | i :: is, listed, a, hok, hlt, h => by
    obtain ⟨oi, hi⟩ : ∃ oi, ops[i]? = some oi := ⟨_, Array.getElem?_eq_getElem (hlt i List.mem_cons_self)⟩
    simp only [okB, Bool.and_eq_true] at hok
    obtain ⟨⟨hr, hf⟩, hok'⟩ := hok
    have e : pickB ops (i :: is) = oi :: pickB ops is := by simp [pickB, hi]
    rw [e] at h
    rw [List.length_cons, show is.length + 1 + fuel = (is.length + fuel) + 1 by omega]
    unfold quietL at h
    by_cases hw' : Region.wanted oi (yielded ops a.tmps) = true
    · rw [if_pos hw'] at h
      obtain ⟨v, hv, hn⟩ := h
      refine anyB_first hi (Region.noSelect_spec hsel) (fun c a w hh => hQ _ _ c a w hh) _ listed a w1 (Region.free_spec hi hf) (by simpa using hr) (.inl ⟨hw', hv⟩) hw (anyB_quiet_at hsel hQ hw fuel is _ _ hok' (fun j hj => hlt j (List.mem_cons_of_mem _ hj)) hn)
    · rw [if_neg hw'] at h
      exact anyB_first hi (Region.noSelect_spec hsel) (fun c a w hh => hQ _ _ c a w hh) _ listed a w1 (Region.free_spec hi hf) (by simpa using hr) (.inr ⟨by simpa using hw', rfl⟩) hw (anyB_quiet_at hsel hQ hw fuel is _ _ hok' (fun j hj => hlt j (List.mem_cons_of_mem _ hj)) h)
theorem calm_panic {Q : Exit → Act → World → Prop} : ∀ d v c a w, Calm Q (.panic c) (Act.put a d v) w → Calm Q (.panic c) a w := fun _ _ _ _ _ h => h
end
theorem Ex.under {X : List Nat} {a b c : World} (h : Ex X a b) (k : Below a.heap.size b c) : Ex X a c :=
  ⟨k.os.trans h.os, k.tape.trans h.tape, k.output.trans h.output, Nat.le_trans h.size k.size, fun i hi hn => (k.block i hi).trans (h.block i hi hn)⟩
theorem wp_world {P : Program} {c : Code} {Q : Exit → Act → World → Prop} {a : Act} {w : World} (h : ∀ W, W = w → c.wp P Q a W) : c.wp P Q a w := h w rfl
/-- append onto an empty literal, at one operation of a region that draws. -/
theorem wp_fresh {P : Program} {o : Oper} {a : Act} {K : Act → World → Prop} {Q : Exit → Act → World → Prop} {w : World} (t e size bytes : Nat) (E : Elem P t e size bytes) (s x : Operand)
    (ho : o.op = .call { callee := .builtin .append, args := #[s, x], argTypes := #[t, t] }) (base b0 : Nat) (hs : a.eval s = .slice (some ⟨b0, 0, none⟩) 0 0) (hown : Own w base e size b0 0 0 []) (ad : Addr) (m c : Nat) (news : List Value) (hx : a.eval x = .slice (some ad) m c)
    (hnews : ∀ j u, news[j]? = some u → w.cell? (ad.add j) = some u) (hl : news.length = m * size) (h1 : ∀ u ∈ news, u.oneCell' = true) (hm : 0 < m) (h63 : m ≤ maxLen) (hbytes : m * bytes ≤ 140737488355328) (hbase : base ≤ w.heap.size)
    (h : ∀ g cap w', Own w' base e size g m cap news → Below base w w' → (∀ k t' c, k ≠ b0 → Blk w k t' c → Blk w' k t' c) → K (a.put o.dst (.slice (some ⟨g, 0, none⟩) m cap)) w') : o.wp P a w K Q := by
  obtain ⟨ht, ⟨i, z, h1', h2', h3', h4', h5'⟩, hp⟩ := E
  refine wp_append_lies w s x t ho base e i z size bytes ht h1' h2' h3' h4' h5' hp _ 0 [] hs hown ad m c news hx hl hnews h1 hm (by omega) (by rw [Nat.zero_add]; exact hbytes) hbase _ rfl ?_
  intro g cap w' hown' hg _ _
  rw [Nat.zero_add, List.nil_append] at hown'
  rw [Nat.zero_add]
  refine h g cap w' hown' ((Below.refl base w).grown hg hbase (fun k hk => ?_)) (fun k t' c hne hk => hk.grown hg (by simp [Value.ownBlock]; omega))
  have := hown.lt
  have : k = b0 := by simpa [Value.ownBlock] using hk.symm
  omega
end Go.Proofs.YtjakigncloleaaaDoor
