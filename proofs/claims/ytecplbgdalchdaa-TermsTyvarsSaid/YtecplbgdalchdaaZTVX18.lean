/- Proved here: parts of the proof of a given statement (HRowTermsTyvars): contracts of the functions that it reaches, what they answer, and in the last text the statement itself. Conditions: those that each theorem names. -/
import Derived.Test.YtecplbgdalchdaaZTVX6
import Derived.ChangeArms
import Derived.SizedLaws
import Derived.Carry
/- Proved here: an argument's reading, opened. Conditions: those that each theorem names. -/
namespace Go.Proofs.Ytecplbgdalchdaa.Q
open Go.RowKit Go.Proofs.YtecplbgdalchdaaW.PrintWords Go.Proofs.YtecplbgdalchdaaW.PrintMore
set_option linter.unusedVariables false
set_option linter.unusedSimpArgs false

/-! ### An argument's reading, opened -/
section
variable {H : Type} {enc : TypeId × Value → H} {P : Program} {W : World} {base : Nat} {spare : Nat → Bool} {held : Bool}
theorem weights_mem_all {e : TypeId} : ∀ {l : List (DataW H)} {d : DataW H}, d ∈ l → ∀ n, n ∈ d.weights P e → n ∈ DataW.weightsAll P e l
  | x :: l, d, h, n, hn => by
    simp only [DataW.weightsAll, List.mem_append]
    rcases List.mem_cons.1 h with rfl | h
    · exact .inl hn
    · exact .inr (weights_mem_all h n hn)
theorem each_row {α : Type} {Q : Nat → α → Prop} : ∀ n, (∀ i, i < n → ∃ x, Q i x) → ∃ xs : List α, xs.length = n ∧ ∀ i x, xs[i]? = some x → Q i x
  | 0, _ => ⟨[], rfl, fun i x h => by simp at h⟩
  | n + 1, h => by
    obtain ⟨xs, hl, hx⟩ := each_row n (fun i hi => h i (by omega))
    obtain ⟨x, hq⟩ := h n (by omega)
    refine ⟨xs ++ [x], by simp [hl], fun i y hy => ?_⟩
    by_cases hi : i < n
    · rw [List.getElem?_append_left (by omega)] at hy
      exact hx i y hy
    · have hlt : i < (xs ++ [x]).length := (List.getElem?_eq_some_iff.1 hy).1
      rw [List.length_append, List.length_singleton, hl] at hlt
      obtain rfl : i = n := by omega
      rw [List.getElem?_append_right (by omega), hl, Nat.sub_self] at hy
      simp only [List.getElem?_cons_zero, Option.some.injEq] at hy
      rw [← hy]
      exact hq
variable (enc P W base spare held) in
/-- Whatever reads as a value of type t, to a depth, is told by K, and within the sizes of ok. -/
def Opens {α : Type} (t : TypeId) (K : α → List Value → Prop) (ok : α → Prop) (n : Nat) : Prop :=
  ∀ fuel, fuel ≤ n → ∀ cs y, DataW.trod enc P W base spare held fuel t cs = some y → (∀ q, q ∈ y.1.weights P t → q ≤ reachBytes) → ∃ x, K x cs ∧ ok x
theorem opens_bool {t : TypeId} (ht : P.underlying t = some .bool) (n : Nat) : Opens enc P W base spare held t (Kd.bool.K W) (fun _ => True) n := by
  intro fuel _ cs y h _
  obtain ⟨b, rfl, _⟩ := DataW.trod_bool ht h
  exact ⟨b, rfl, trivial⟩
theorem opens_string {t : TypeId} (ht : P.underlying t = some .string) (n : Nat) : Opens enc P W base spare held t (Kd.string.K W) (fun s => s.size ≤ reachBytes) n := by
  intro fuel _ cs y h hw
  obtain ⟨s, rfl, rfl, _⟩ := DataW.trod_string ht h
  refine ⟨s, rfl, ?_⟩
  have := hw s.data.toList.length (by simp [DataW.weights])
  rwa [data_length] at this
theorem opens_slice {α : Type} {d : Kd α} {okE : α → Prop} {t e q : TypeId} (ht : P.underlying t = some (.slice e)) (hc : P.cellsOf e = d.sz) (hB : 0 < P.bytesOf e) {n : Nat} (h : Opens enc P W base spare held e (d.K W) okE n) :
    Opens enc P W base spare held t ((Kd.slice q d).K W) (fun l => l.length ≤ reachBytes ∧ ∀ x, x ∈ l → okE x) (n + 1) := by
  intro fuel hf cs y hy hw
  rcases DataW.trod_slice ht hy with ⟨rfl, rfl⟩ | ⟨a, len, cap, elems, rest, m, rfl, rfl, rfl, hb, hl, hm, hel, hat, _⟩
  · exact ⟨[], ⟨none, 0, rfl, Nat.le_refl _, rfl, by simp, fun h => absurd h (by simp)⟩, by simp, by simp⟩
  · have hlen : len ≤ reachBytes := by
      have h1 := hw ((elems.map (·.1)).length + (rest.map (·.1)).length |>.mul (P.bytesOf e)) (by simp [DataW.weights, ht])
      have h2 : (elems.map (·.1)).length ≤ ((elems.map (·.1)).length + (rest.map (·.1)).length) * P.bytesOf e := Nat.le_trans (Nat.le_add_right _ _) (Nat.le_mul_of_pos_right _ hB)
      rw [List.length_map, hel] at h2
      exact Nat.le_trans h2 (by simpa [hel] using h1)
    obtain ⟨xs, hxl, hx⟩ := each_row (α := α) (Q := fun i x => okE x ∧ ∃ c, (∀ j u, c[j]? = some u → W.cell? (a.add (i * d.sz + j)) = some u) ∧ c.length = d.sz ∧ d.K W x c) len (fun i hi => by
      have h1 := hat i hi
      rw [List.getElem?_eq_getElem (by omega)] at h1
      obtain ⟨c, hcs, hc2⟩ := Option.bind_eq_some_iff.1 h1
      obtain ⟨_, hcl, hcc⟩ := World.cells?_some hcs
      obtain ⟨x, hK, hok⟩ := h m (by omega) c elems[i] hc2 (fun z hz => hw z (by
        simp only [DataW.weights, ht, List.mem_cons, List.mem_append]
        exact .inr (.inl (weights_mem_all (List.mem_map.2 ⟨elems[i], List.getElem_mem _, rfl⟩) z hz))))
      refine ⟨x, hok, c, fun j u hu => ?_, hcl.trans hc, hK⟩
      have hj : j < c.length := (List.getElem?_eq_some_iff.1 hu).1
      have h2 := hcc j (by omega)
      rw [← hc, ← add_add]
      exact h2.trans hu)
    have hC : d.C W (some a) len xs := ⟨hxl, by have : reachBytes < 2 ^ 47 := reachBytes_lt; omega, fun _ => ⟨a, rfl, fun j p hp => by
      obtain ⟨_, c, hr, hcl, hK⟩ := hx j p hp
      exact ⟨c, hcl, hK, hr⟩⟩⟩
    refine ⟨xs, ⟨some a, cap, by rw [hxl], by omega, by rw [hxl]; exact hC⟩, by omega, fun x hxm => ?_⟩
    obtain ⟨i, hi⟩ := List.mem_iff_getElem?.1 hxm
    exact (hx i x hi).1
/-- A field of a struct. -/
theorem opens_field {α : Type} {K : α → List Value → Prop} {ok : α → Prop} {t : TypeId} {fs : Array Field} {xs : List (DataW H × List MemPlace)} {cs : List Value} {m : Nat} (ht : P.underlying t = some (.struct fs)) (hl : xs.length = fs.size)
    (hat : ∀ (i : Nat) (f : Field), fs[i]? = some f → DataW.trod enc P W base spare held m f.type ((cs.drop f.offset).take (P.cellsOf f.type)) = xs[i]?)
    (hw : ∀ q, q ∈ (DataW.agg (xs.map (·.1))).weights P t → q ≤ reachBytes) (i : Nat) (f : Field) (hf : fs[i]? = some f) {n : Nat} (hn : m ≤ n) (h : Opens enc P W base spare held f.type K ok n) :
    ∃ x, K x ((cs.drop f.offset).take (P.cellsOf f.type)) ∧ ok x := by
  have hi : i < xs.length := by rw [hl]; exact (Array.getElem?_eq_some_iff.1 hf).1
  have h1 := hat i f hf
  rw [List.getElem?_eq_getElem hi] at h1
  refine h m hn _ _ h1 (fun q hq => hw q ?_)
  simp only [DataW.weights, ht]
  refine DataW.weights_mem_each (j := i) (t := f.type) (d := xs[i].1) ?_ ?_ q hq
  · rw [List.getElem?_map, Array.getElem?_toList, hf]; rfl
  · rw [List.getElem?_map, List.getElem?_eq_getElem hi]; rfl
end

/-! #### this program's types -/
def wideN (t : S24) : Prop := t.f1.size ≤ reachBytes ∧ t.f2.length ≤ reachBytes
def wide (t : S24) : Prop := allT wideN t
theorem wide_wd {t : S24} (h : wide t) : wd t := allT_imp (fun x h => ⟨by have : reachBytes < 2 ^ 47 := reachBytes_lt; have := h.1; unfold okS; omega, by have : reachBytes < 2 ^ 47 := reachBytes_lt; have := h.2; omega⟩) t h
theorem len3 {α : Type} {cs : List α} (h : cs.length = 3) : ∃ a b c, cs = [a, b, c] := by
  match cs, h with
  | [a, b, c], _ => exact ⟨a, b, c, rfl⟩
set_option maxRecDepth 100000 in
theorem opens_type {H : Type} {enc : TypeId × Value → H} {W : World} {base : Nat} {spare : Nat → Bool} {held : Bool} : ∀ n, Opens enc Try.prog W base spare held 24 (k24.K W) wide n
  | 0 => fun fuel hf cs y h _ => by
    obtain rfl : fuel = 0 := by omega
    simp [DataW.trod] at h
  | n + 1 => fun fuel hf cs y h hw => by
    obtain ⟨xs, m, rfl, rfl, hl, hxl, hat⟩ := DataW.trod_struct Try.underlying24 h
    obtain ⟨c0, c1, c2, rfl⟩ := len3 (hl.trans (by kernel_rfl))
    obtain ⟨b, hb, _⟩ := opens_field Try.underlying24 hxl hat hw 0 _ rfl (n := n) (by omega) (opens_bool (by kernel_rfl) n)
    obtain ⟨s, hs, hs2⟩ := opens_field Try.underlying24 hxl hat hw 1 _ rfl (n := n) (by omega) (opens_string (by kernel_rfl) n)
    have hsl : Opens enc Try.prog W base spare held 22 ((Kd.slice 24 k24).K W) (fun l => l.length ≤ reachBytes ∧ ∀ x, x ∈ l → wide x) n := by
      cases n with
      | zero =>
        intro fuel hf cs y h _
        obtain rfl : fuel = 0 := by omega
        simp [DataW.trod] at h
      | succ n => exact opens_slice Try.underlying22 (by kernel_rfl) (of_decide_eq_true (by kernel_rfl)) (opens_type n)
    obtain ⟨l, hsl2, hll, hlw⟩ := opens_field Try.underlying24 hxl hat hw 2 _ rfl (n := n) (by omega) hsl
    rw [show Try.prog.cellsOf _ = 1 by kernel_rfl] at hb hs hsl2
    have hb' : [c0] = [Value.bool b] := hb
    have hs' : [c1] = [Value.string s] := hs
    obtain ⟨A, c, hc2, hlc, hC⟩ : ∃ A c, [c2] = [Value.slice A l.length c] ∧ l.length ≤ c ∧ k24.C W A l.length l := hsl2
    simp only [List.cons.injEq, and_true] at hb' hs' hc2
    subst hb' hs' hc2
    exact ⟨⟨b, s, l⟩, k24_mk W ⟨b, s, l⟩ hlc hC, (allT_eq _ _).2 ⟨⟨hs2, hll⟩, (allL_mem _ _).2 hlw⟩⟩
end Go.Proofs.Ytecplbgdalchdaa.Q
