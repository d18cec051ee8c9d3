/- Proved here: parts of the proof of a given statement (HRowPrinterTypes): contracts of the functions that it reaches, what they answer, and in the last text the statement itself. Conditions: those that each theorem names. -/
import Derived.Test.YtgnklkmifcmlhaaZPTX6
import Derived.ChangeArms
import Derived.SizedLaws
import Derived.Carry
/- Proved here: an argument's reading, opened. Conditions: those that each theorem names. -/
namespace Go.Proofs.Ytgnklkmifcmlhaa.Q
open Go.RowKit Go.Proofs.YtgnklkmifcmlhaaW.PrintWords Go.Proofs.YtgnklkmifcmlhaaW.PrintMore
set_option linter.unusedVariables false
set_option linter.unusedSimpArgs false

/-! ### An argument's reading, opened -/
section
variable {H : Type} {enc : TypeId × Value → H} {P : Program} {W : World} {base : Nat} {spare : Nat → Bool} {held : Bool}
theorem weights_mem_all {e : TypeId} : ∀ {l : List (DataW H)} {d : DataW H}, d ∈ l → ∀ n, n ∈ d.weights P e → n ∈ DataW.weightsAll P e l
  | x :: l, d, h, n, hn => by
    simp only [DataW.weightsAll, List.mem_append]
    rcases List.mem_cons.1 h with rfl | h
    · exact .inl hn
    · exact .inr (weights_mem_all h n hn)
theorem each_row {α : Type} {Q : Nat → α → Prop} : ∀ n, (∀ i, i < n → ∃ x, Q i x) → ∃ xs : List α, xs.length = n ∧ ∀ i x, xs[i]? = some x → Q i x
  | 0, _ => ⟨[], rfl, fun i x h => by simp at h⟩
  | n + 1, h => by
    obtain ⟨xs, hl, hx⟩ := each_row n (fun i hi => h i (by omega))
    obtain ⟨x, hq⟩ := h n (by omega)
    refine ⟨xs ++ [x], by simp [hl], fun i y hy => ?_⟩
    by_cases hi : i < n
    · rw [List.getElem?_append_left (by omega)] at hy
      exact hx i y hy
    · have hlt : i < (xs ++ [x]).length := (List.getElem?_eq_some_iff.1 hy).1
      rw [List.length_append, List.length_singleton, hl] at hlt
      obtain rfl : i = n := by omega
      rw [List.getElem?_append_right (by omega), hl, Nat.sub_self] at hy
      simp only [List.getElem?_cons_zero, Option.some.injEq] at hy
      rw [← hy]
      exact hq
variable (enc P W base spare held) in
/-- Whatever reads as a value of type t, to a depth, is told by K, and within the sizes of ok. -/
def Opens {α : Type} (t : TypeId) (K : α → List Value → Prop) (ok : α → Prop) (n : Nat) : Prop :=
  ∀ fuel, fuel ≤ n → ∀ cs y, DataW.trod enc P W base spare held fuel t cs = some y → (∀ q, q ∈ y.1.weights P t → q ≤ reachBytes) → ∃ x, K x cs ∧ ok x
theorem opens_bool {t : TypeId} (ht : P.underlying t = some .bool) (n : Nat) : Opens enc P W base spare held t (Kd.bool.K W) (fun _ => True) n := by
  intro fuel _ cs y h _
  obtain ⟨b, rfl, _⟩ := DataW.trod_bool ht h
  exact ⟨b, rfl, trivial⟩
theorem opens_string {t : TypeId} (ht : P.underlying t = some .string) (n : Nat) : Opens enc P W base spare held t (Kd.string.K W) (fun s => s.size ≤ reachBytes) n := by
  intro fuel _ cs y h hw
  obtain ⟨s, rfl, rfl, _⟩ := DataW.trod_string ht h
  refine ⟨s, rfl, ?_⟩
  have := hw s.data.toList.length (by simp [DataW.weights])
  rwa [data_length] at this
theorem opens_slice {α : Type} {d : Kd α} {okE : α → Prop} {t e q : TypeId} (ht : P.underlying t = some (.slice e)) (hc : P.cellsOf e = d.sz) (hB : 0 < P.bytesOf e) {n : Nat} (h : Opens enc P W base spare held e (d.K W) okE n) :
    Opens enc P W base spare held t ((Kd.slice q d).K W) (fun l => l.length ≤ reachBytes ∧ ∀ x, x ∈ l → okE x) (n + 1) := by
  intro fuel hf cs y hy hw
  rcases DataW.trod_slice ht hy with ⟨rfl, rfl⟩ | ⟨a, len, cap, elems, rest, m, rfl, rfl, rfl, hb, hl, hm, hel, hat, _⟩
  · exact ⟨[], ⟨none, 0, rfl, Nat.le_refl _, rfl, by simp, fun h => absurd h (by simp)⟩, by simp, by simp⟩
  · have hlen : len ≤ reachBytes := by
      have h1 := hw ((elems.map (·.1)).length + (rest.map (·.1)).length |>.mul (P.bytesOf e)) (by simp [DataW.weights, ht])
      have h2 : (elems.map (·.1)).length ≤ ((elems.map (·.1)).length + (rest.map (·.1)).length) * P.bytesOf e := Nat.le_trans (Nat.le_add_right _ _) (Nat.le_mul_of_pos_right _ hB)
      rw [List.length_map, hel] at h2
      exact Nat.le_trans h2 (by simpa [hel] using h1)
    obtain ⟨xs, hxl, hx⟩ := each_row (α := α) (Q := fun i x => okE x ∧ ∃ c, (∀ j u, c[j]? = some u → W.cell? (a.add (i * d.sz + j)) = some u) ∧ c.length = d.sz ∧ d.K W x c) len (fun i hi => by
      have h1 := hat i hi
      rw [List.getElem?_eq_getElem (by omega)] at h1
      obtain ⟨c, hcs, hc2⟩ := Option.bind_eq_some_iff.1 h1
      obtain ⟨_, hcl, hcc⟩ := World.cells?_some hcs
      obtain ⟨x, hK, hok⟩ := h m (by omega) c elems[i] hc2 (fun z hz => hw z (by
        simp only [DataW.weights, ht, List.mem_cons, List.mem_append]
        exact .inr (.inl (weights_mem_all (List.mem_map.2 ⟨elems[i], List.getElem_mem _, rfl⟩) z hz))))
      refine ⟨x, hok, c, fun j u hu => ?_, hcl.trans hc, hK⟩
      have hj : j < c.length := (List.getElem?_eq_some_iff.1 hu).1
      have h2 := hcc j (by omega)
      rw [← hc, ← add_add]
      exact h2.trans hu)
    have hC : d.C W (some a) len xs := ⟨hxl, by have : reachBytes < 2 ^ 47 := reachBytes_lt; omega, fun _ => ⟨a, rfl, fun j p hp => by
      obtain ⟨_, c, hr, hcl, hK⟩ := hx j p hp
      exact ⟨c, hcl, hK, hr⟩⟩⟩
    refine ⟨xs, ⟨some a, cap, by rw [hxl], by omega, by rw [hxl]; exact hC⟩, by omega, fun x hxm => ?_⟩
    obtain ⟨i, hi⟩ := List.mem_iff_getElem?.1 hxm
    exact (hx i x hi).1
/-- A field of a struct. -/
theorem opens_field {α : Type} {K : α → List Value → Prop} {ok : α → Prop} {t : TypeId} {fs : Array Field} {xs : List (DataW H × List MemPlace)} {cs : List Value} {m : Nat} (ht : P.underlying t = some (.struct fs)) (hl : xs.length = fs.size)
    (hat : ∀ (i : Nat) (f : Field), fs[i]? = some f → DataW.trod enc P W base spare held m f.type ((cs.drop f.offset).take (P.cellsOf f.type)) = xs[i]?)
    (hw : ∀ q, q ∈ (DataW.agg (xs.map (·.1))).weights P t → q ≤ reachBytes) (i : Nat) (f : Field) (hf : fs[i]? = some f) {n : Nat} (hn : m ≤ n) (h : Opens enc P W base spare held f.type K ok n) :
    ∃ x, K x ((cs.drop f.offset).take (P.cellsOf f.type)) ∧ ok x := by
  have hi : i < xs.length := by rw [hl]; exact (Array.getElem?_eq_some_iff.1 hf).1
  have h1 := hat i f hf
  rw [List.getElem?_eq_getElem hi] at h1
  refine h m hn _ _ h1 (fun q hq => hw q ?_)
  simp only [DataW.weights, ht]
  refine DataW.weights_mem_each (j := i) (t := f.type) (d := xs[i].1) ?_ ?_ q hq
  · rw [List.getElem?_map, Array.getElem?_toList, hf]; rfl
  · rw [List.getElem?_map, List.getElem?_eq_getElem hi]; rfl
end

/-! #### this program's types -/
def wideN (t : S25) : Prop := t.f1.size ≤ reachBytes ∧ t.f2.length ≤ reachBytes
def wide (t : S25) : Prop := allT wideN t
theorem wide_wd {t : S25} (h : wide t) : wd t := allT_imp (fun x h => ⟨by have : reachBytes < 2 ^ 47 := reachBytes_lt; have := h.1; unfold okS; omega, by have : reachBytes < 2 ^ 47 := reachBytes_lt; have := h.2; omega⟩) t h
theorem len3 {α : Type} {cs : List α} (h : cs.length = 3) : ∃ a b c, cs = [a, b, c] := by
  match cs, h with
  | [a, b, c], _ => exact ⟨a, b, c, rfl⟩
set_option maxRecDepth 100000 in
theorem opens_type {H : Type} {enc : TypeId × Value → H} {W : World} {base : Nat} {spare : Nat → Bool} {held : Bool} : ∀ n, Opens enc Try.prog W base spare held 25 (k25.K W) wide n
  | 0 => fun fuel hf cs y h _ => by
    obtain rfl : fuel = 0 := by omega
    simp [DataW.trod] at h
  | n + 1 => fun fuel hf cs y h hw => by
    obtain ⟨xs, m, rfl, rfl, hl, hxl, hat⟩ := DataW.trod_struct Try.underlying25 h
    obtain ⟨c0, c1, c2, rfl⟩ := len3 (hl.trans (by kernel_rfl))
    obtain ⟨b, hb, _⟩ := opens_field Try.underlying25 hxl hat hw 0 _ rfl (n := n) (by omega) (opens_bool (by kernel_rfl) n)
    obtain ⟨s, hs, hs2⟩ := opens_field Try.underlying25 hxl hat hw 1 _ rfl (n := n) (by omega) (opens_string (by kernel_rfl) n)
    have hsl : Opens enc Try.prog W base spare held 23 ((Kd.slice 25 k25).K W) (fun l => l.length ≤ reachBytes ∧ ∀ x, x ∈ l → wide x) n := by
      cases n with
      | zero =>
        intro fuel hf cs y h _
        obtain rfl : fuel = 0 := by omega
        simp [DataW.trod] at h
      | succ n => exact opens_slice Try.underlying23 (by kernel_rfl) (of_decide_eq_true (by kernel_rfl)) (opens_type n)
    obtain ⟨l, hsl2, hll, hlw⟩ := opens_field Try.underlying25 hxl hat hw 2 _ rfl (n := n) (by omega) hsl
    rw [show Try.prog.cellsOf _ = 1 by kernel_rfl] at hb hs hsl2
    have hb' : [c0] = [Value.bool b] := hb
    have hs' : [c1] = [Value.string s] := hs
    obtain ⟨A, c, hc2, hlc, hC⟩ : ∃ A c, [c2] = [Value.slice A l.length c] ∧ l.length ≤ c ∧ k25.C W A l.length l := hsl2
    simp only [List.cons.injEq, and_true] at hb' hs' hc2
    subst hb' hs' hc2
    exact ⟨⟨b, s, l⟩, k25_mk W ⟨b, s, l⟩ hlc hC, (allT_eq _ _).2 ⟨⟨hs2, hll⟩, (allL_mem _ _).2 hlw⟩⟩
theorem len4 {α : Type} {cs : List α} (h : cs.length = 4) : ∃ a b c d, cs = [a, b, c, d] := by
  match cs, h with
  | [a, b, c, d], _ => exact ⟨a, b, c, d, rfl⟩
/-- An argument of the type. -/
theorem open_type {H : Type} {enc : TypeId × Value → H} {W : World} {base : Nat} {spare : Nat → Bool} {held : Bool} {v : Value} {d : DataW H} {ps : List MemPlace} (h : DataW.Trod enc Try.prog W base spare held 25 v d ps)
    (hw : ∀ q, q ∈ d.weights Try.prog 25 → q ≤ reachBytes) : ∃ (x : S25) (A : Option Addr) (c : Nat), v.cells.toList = [.bool x.f0, .string x.f1, .slice A x.f2.length c] ∧ x.f2.length ≤ c ∧ k25.C W A x.f2.length x.f2 ∧ wide x := by
  obtain ⟨fuel, hf⟩ := h
  obtain ⟨x, hK, hwd⟩ := opens_type fuel fuel (Nat.le_refl _) _ _ hf hw
  obtain ⟨A, c, he, hl, hC⟩ := k25_open hK
  exact ⟨x, A, c, he, hl, hC, hwd⟩
end Go.Proofs.Ytgnklkmifcmlhaa.Q
/- Proved here: a syntax's reading, opened. Conditions: those that each theorem names. -/
namespace Go.Proofs.Ytgnklkmifcmlhaa.Q
open Go.RowKit Go.Proofs.YtgnklkmifcmlhaaW.PrintWords Go.Proofs.YtgnklkmifcmlhaaW.PrintMore
set_option linter.unusedVariables false
set_option linter.unusedSimpArgs false

theorem opens_int {H : Type} {enc : TypeId × Value → H} {P : Program} {W : World} {base : Nat} {spare : Nat → Bool} {held : Bool} {t : TypeId} {k : IntKind} (ht : P.underlying t = some (.int k)) (n : Nat) : Opens enc P W base spare held t ((Kd.int k).K W) (fun _ => True) n := by
  intro fuel _ cs y h _
  obtain ⟨b, rfl, _⟩ := DataW.trod_int ht h
  exact ⟨b, rfl, trivial⟩
theorem len2 {α : Type} {cs : List α} (h : cs.length = 2) : ∃ a b, cs = [a, b] := by
  match cs, h with
  | [a, b], _ => exact ⟨a, b, rfl⟩
section
variable {H : Type} {enc : TypeId × Value → H} {W : World} {base : Nat} {spare : Nat → Bool} {held : Bool}
set_option maxRecDepth 100000 in
theorem opens_infix (n : Nat) : Opens enc Try.prog W base spare held 119 (k119.K W) (fun b => b.f0.size ≤ reachBytes) n := fun fuel hf cs y h hw => by
  obtain ⟨xs, m, rfl, rfl, hl, hxl, hat⟩ := DataW.trod_struct Try.underlying119 h
  obtain ⟨c0, c1, c2, rfl⟩ := len3 (hl.trans (by kernel_rfl))
  obtain ⟨s, hs, hs2⟩ := opens_field Try.underlying119 hxl hat hw 0 _ rfl (n := n) (by omega) (opens_string (by kernel_rfl) n)
  obtain ⟨i, hi, _⟩ := opens_field Try.underlying119 hxl hat hw 1 _ rfl (n := n) (by omega) (opens_int (k := .i64) (by kernel_rfl) n)
  obtain ⟨b, hb, _⟩ := opens_field Try.underlying119 hxl hat hw 2 _ rfl (n := n) (by omega) (opens_bool (by kernel_rfl) n)
  rw [show Try.prog.cellsOf _ = 1 by kernel_rfl] at hs hi hb
  have hs' : [c0] = [Value.string s] := hs
  have hi' : [c1] = [Value.int .i64 i] := hi
  have hb' : [c2] = [Value.bool b] := hb
  simp only [List.cons.injEq, and_true] at hs' hi' hb'
  subst hs' hi' hb'
  exact ⟨⟨s, i, b⟩, k119_mk W ⟨s, i, b⟩, hs2⟩
set_option maxRecDepth 100000 in
theorem opens_prefix (n : Nat) : Opens enc Try.prog W base spare held 122 (k122.K W) (fun b => b.f0.size ≤ reachBytes) n := fun fuel hf cs y h hw => by
  obtain ⟨xs, m, rfl, rfl, hl, hxl, hat⟩ := DataW.trod_struct Try.underlying122 h
  obtain ⟨c0, c1, rfl⟩ := len2 (hl.trans (by kernel_rfl))
  obtain ⟨s, hs, hs2⟩ := opens_field Try.underlying122 hxl hat hw 0 _ rfl (n := n) (by omega) (opens_string (by kernel_rfl) n)
  obtain ⟨i, hi, _⟩ := opens_field Try.underlying122 hxl hat hw 1 _ rfl (n := n) (by omega) (opens_int (k := .i64) (by kernel_rfl) n)
  rw [show Try.prog.cellsOf _ = 1 by kernel_rfl] at hs hi
  have hs' : [c0] = [Value.string s] := hs
  have hi' : [c1] = [Value.int .i64 i] := hi
  simp only [List.cons.injEq, and_true] at hs' hi'
  subst hs' hi'
  exact ⟨⟨s, i⟩, k122_mk W ⟨s, i⟩, hs2⟩
theorem opens_strs (n : Nat) : Opens enc Try.prog W base spare held 43 ((Kd.slice 9 Kd.string).K W) (fun l => l.length ≤ reachBytes ∧ ∀ x, x ∈ l → x.size ≤ reachBytes) n := by
  cases n with
  | zero =>
    intro fuel hf cs y h _
    obtain rfl : fuel = 0 := by omega
    simp [DataW.trod] at h
  | succ n => exact opens_slice Try.underlying43 (by kernel_rfl) (of_decide_eq_true (by kernel_rfl)) (opens_string (by kernel_rfl) n)
set_option maxRecDepth 100000 in
theorem opens_overload (n : Nat) : Opens enc Try.prog W base spare held 111 (k111.K W) (fun b => b.f0.size ≤ reachBytes ∧ b.f1.length ≤ reachBytes ∧ ∀ x, x ∈ b.f1 → x.size ≤ reachBytes) n := fun fuel hf cs y h hw => by
  obtain ⟨xs, m, rfl, rfl, hl, hxl, hat⟩ := DataW.trod_struct Try.underlying111 h
  obtain ⟨c0, c1, rfl⟩ := len2 (hl.trans (by kernel_rfl))
  obtain ⟨s, hs, hs2⟩ := opens_field Try.underlying111 hxl hat hw 0 _ rfl (n := n) (by omega) (opens_string (by kernel_rfl) n)
  obtain ⟨l, hsl2, hll, hlw⟩ := opens_field Try.underlying111 hxl hat hw 1 _ rfl (n := n) (by omega) (opens_strs n)
  rw [show Try.prog.cellsOf _ = 1 by kernel_rfl] at hs hsl2
  have hs' : [c0] = [Value.string s] := hs
  obtain ⟨A, c, hc2, hlc, hC⟩ : ∃ A c, [c1] = [Value.slice A l.length c] ∧ l.length ≤ c ∧ Kd.string.C W A l.length l := hsl2
  simp only [List.cons.injEq, and_true] at hs' hc2
  subst hs' hc2
  exact ⟨⟨s, l⟩, k111_mk W ⟨s, l⟩ hlc hC, hs2, hll, hlw⟩
/-- A slice to any depth. -/
theorem opens_row {α : Type} {d : Kd α} {okE : α → Prop} {t e q : TypeId} (ht : Try.prog.underlying t = some (.slice e)) (hc : Try.prog.cellsOf e = d.sz) (hB : 0 < Try.prog.bytesOf e) (h : ∀ n, Opens enc Try.prog W base spare held e (d.K W) okE n) (n : Nat) :
    Opens enc Try.prog W base spare held t ((Kd.slice q d).K W) (fun l => l.length ≤ reachBytes ∧ ∀ x, x ∈ l → okE x) n := by
  cases n with
  | zero =>
    intro fuel hf cs y h _
    obtain rfl : fuel = 0 := by omega
    simp [DataW.trod] at h
  | succ n => exact opens_slice ht hc hB (h n)
/-- A syntax. -/
def SynRow (W : World) (vs : List Value) (l0 : List S119) (l1 : List S122) (l2 : List ByteArray) (l3 : List S111) : Prop :=
  ∃ (A0 : Option Addr) (c0 : Nat) (A1 : Option Addr) (c1 : Nat) (A2 : Option Addr) (c2 : Nat) (A3 : Option Addr) (c3 : Nat), vs = [.slice A0 l0.length c0, .slice A1 l1.length c1, .slice A2 l2.length c2, .slice A3 l3.length c3] ∧
    l0.length ≤ c0 ∧ k119.C W A0 l0.length l0 ∧ l1.length ≤ c1 ∧ k122.C W A1 l1.length l1 ∧ l2.length ≤ c2 ∧ Kd.string.C W A2 l2.length l2 ∧ l3.length ≤ c3 ∧ k111.C W A3 l3.length l3
def SynWide (l0 : List S119) (l1 : List S122) (l2 : List ByteArray) (l3 : List S111) : Prop :=
  (l0.length ≤ 1152921504606846976 ∧ l1.length ≤ 1152921504606846976 ∧ l2.length ≤ 1152921504606846976 ∧ l3.length ≤ 1152921504606846976) ∧
    (∀ a, a ∈ l0 → okS a.f0) ∧ (∀ a, a ∈ l1 → okS a.f0) ∧ (∀ a, a ∈ l2 → okS a) ∧ ∀ a, a ∈ l3 → okS a.f0 ∧ a.f1.length ≤ 4611686018427387904 ∧ ∀ x, x ∈ a.f1 → okS x
theorem reach_ok {n : ByteArray} (h : n.size ≤ reachBytes) : okS n := by have : reachBytes < 2 ^ 47 := reachBytes_lt; unfold okS; omega
theorem reach_len {n : Nat} (h : n ≤ reachBytes) : n ≤ 1152921504606846976 := by have : reachBytes < 2 ^ 47 := reachBytes_lt; omega
set_option maxRecDepth 100000 in
theorem open_syntax {v : Value} {d : DataW H} {ps : List MemPlace} (h : DataW.Trod enc Try.prog W base spare held 69 v d ps)
    (hw0 : ∀ q, q ∈ d.weights Try.prog 69 → q ≤ reachBytes) : ∃ (l0 : List S119) (l1 : List S122) (l2 : List ByteArray) (l3 : List S111), SynRow W v.cells.toList l0 l1 l2 l3 ∧ SynWide l0 l1 l2 l3 := by
  obtain ⟨fuel, hf⟩ := h
  obtain ⟨xs, m, rfl, hd, hl, hxl, hat⟩ := DataW.trod_struct Try.underlying69 hf
  obtain ⟨rfl, rfl⟩ := Prod.mk.inj hd
  have hw := hw0
  obtain ⟨c0, c1, c2, c3, hcs⟩ := len4 (hl.trans (by kernel_rfl))
  rw [hcs] at hat ⊢
  obtain ⟨l0, hs0, hn0, hw0'⟩ := opens_field Try.underlying69 hxl hat hw 0 _ rfl (n := m) (Nat.le_refl _) (opens_row (q := 119) (d := k119) Try.underlying65 (by kernel_rfl) (of_decide_eq_true (by kernel_rfl)) opens_infix m)
  obtain ⟨l1, hs1, hn1, hw1'⟩ := opens_field Try.underlying69 hxl hat hw 1 _ rfl (n := m) (Nat.le_refl _) (opens_row (q := 122) (d := k122) Try.underlying66 (by kernel_rfl) (of_decide_eq_true (by kernel_rfl)) opens_prefix m)
  obtain ⟨l2, hs2, hn2, hw2'⟩ := opens_field Try.underlying69 hxl hat hw 2 _ rfl (n := m) (Nat.le_refl _) (opens_strs m)
  obtain ⟨l3, hs3, hn3, hw3'⟩ := opens_field Try.underlying69 hxl hat hw 3 _ rfl (n := m) (Nat.le_refl _) (opens_row (q := 111) (d := k111) Try.underlying67 (by kernel_rfl) (of_decide_eq_true (by kernel_rfl)) opens_overload m)
  rw [show Try.prog.cellsOf _ = 1 by kernel_rfl] at hs0 hs1 hs2 hs3
  obtain ⟨A0, k0, e0, g0, C0⟩ : ∃ A c, [c0] = [Value.slice A l0.length c] ∧ l0.length ≤ c ∧ k119.C W A l0.length l0 := hs0
  obtain ⟨A1, k1, e1, g1, C1⟩ : ∃ A c, [c1] = [Value.slice A l1.length c] ∧ l1.length ≤ c ∧ k122.C W A l1.length l1 := hs1
  obtain ⟨A2, k2, e2, g2, C2⟩ : ∃ A c, [c2] = [Value.slice A l2.length c] ∧ l2.length ≤ c ∧ Kd.string.C W A l2.length l2 := hs2
  obtain ⟨A3, k3, e3, g3, C3⟩ : ∃ A c, [c3] = [Value.slice A l3.length c] ∧ l3.length ≤ c ∧ k111.C W A l3.length l3 := hs3
  simp only [List.cons.injEq, and_true] at e0 e1 e2 e3
  subst e0 e1 e2 e3
  exact ⟨l0, l1, l2, l3, ⟨A0, k0, A1, k1, A2, k2, A3, k3, rfl, g0, C0, g1, C1, g2, C2, g3, C3⟩, ⟨reach_len hn0, reach_len hn1, reach_len hn2, reach_len hn3⟩, fun a ha => reach_ok (hw0' a ha), fun a ha => reach_ok (hw1' a ha), fun a ha => reach_ok (hw2' a ha), fun a ha => ⟨reach_ok (hw3' a ha).1, Nat.le_trans (reach_len (hw3' a ha).2.1) (by decide), fun x hx => reach_ok ((hw3' a ha).2.2 x hx)⟩⟩
end
end Go.Proofs.Ytgnklkmifcmlhaa.Q
