/- Proved here: parts of the proof of a given statement (HRowSignatureAdds): contracts of the functions that it reaches, what they answer, and in the last text the statement itself. Conditions: those that each theorem names. -/
import Derived.Test.YtgnklkmifcmlhaaZSAX5
import Derived.Test.YtgnklkmifcmlhaaZSAX8
import Derived.Test.YtgnklkmifcmlhaaZSAX9
/- Proved here: a signature's tables: a map of strings to whole numbers, a map of strings to types. Conditions: those that each theorem names. -/
namespace Go.Proofs.Ytgnklkmifcmlhaa.Q
open Go.RowKit Go.MapKept Go.Proofs.YtgnklkmifcmlhaaW.PrintWords Go.Proofs.YtgnklkmifcmlhaaW.PrintMore
set_option linter.unusedVariables false
set_option linter.unusedSimpArgs false

section
variable {β : Type}
def lookK (s : ByteArray) : List (ByteArray × β) → Option β
  | [] => none
  | p :: l => if p.1 = s then some p.2 else lookK s l
def putK (s : ByteArray) (v : β) : List (ByteArray × β) → List (ByteArray × β)
  | [] => [(s, v)]
  | p :: l => if p.1 = s then (s, v) :: l else p :: putK s v l
theorem lookK_put (s t : ByteArray) (v : β) : ∀ l : List (ByteArray × β), lookK t (putK s v l) = if t = s then some v else lookK t l
  | [] => by
    simp only [putK, lookK]
    by_cases h : s = t
    · rw [if_pos h, if_pos h.symm]
    · rw [if_neg h, if_neg (fun e => h e.symm)]
  | p :: l => by
    simp only [putK]
    by_cases h : p.1 = s
    · rw [if_pos h]
      simp only [lookK]
      by_cases h2 : s = t
      · rw [if_pos h2, if_pos h2.symm]
      · rw [if_neg h2, if_neg (fun e => h2 e.symm), if_neg (fun e => h2 (h.symm.trans e))]
    · rw [if_neg h]
      simp only [lookK, lookK_put s t v l]
      by_cases h2 : p.1 = t
      · rw [if_pos h2, if_pos h2, if_neg (fun e => h (h2.trans e))]
      · rw [if_neg h2, if_neg h2]
/-- Values by a function. -/
def valK (f : β → Value) (l : List (ByteArray × β)) : List (ByteArray × Value) := l.map fun p => (p.1, f p.2)
theorem look_val (f : β → Value) (s : ByteArray) : ∀ l : List (ByteArray × β), lookM s (valK f l) = (lookK s l).map f
  | [] => rfl
  | p :: l => by
    have h := look_val f s l
    simp only [valK, List.map_cons, lookM, lookK] at h ⊢
    by_cases hp : p.1 = s
    · rw [if_pos hp, if_pos hp]; rfl
    · rw [if_neg hp, if_neg hp, h]
theorem put_val (f : β → Value) (s : ByteArray) (v : β) : ∀ l : List (ByteArray × β), putM s (f v) (valK f l) = valK f (putK s v l)
  | [] => rfl
  | p :: l => by
    have h := put_val f s v l
    simp only [valK, List.map_cons, putM, putK] at h ⊢
    by_cases hp : p.1 = s
    · rw [if_pos hp, if_pos hp]; rfl
    · rw [if_neg hp, if_neg hp, h]; rfl
end
def tyV (p : S25 × Option Addr × Nat) : Value := .agg #[.bool p.1.f0, .string p.1.f1, .slice p.2.1 p.1.f2.length p.2.2]
abbrev ArIs (w : World) (b : Nat) (d : List (ByteArray × Int)) : Prop := MapIs encS w b (valK (Value.int .i64) d)
abbrev CoIs (w : World) (b : Nat) (d : List (ByteArray × (S25 × Option Addr × Nat))) : Prop := MapIs encS w b (valK tyV d)
theorem arU : Try.prog.underlying 125 = some (.map 9 3) := by kernel_rfl
theorem coU : Try.prog.underlying 126 = some (.map 9 25) := by kernel_rfl
theorem zeroI (w : World) : (zeroValue 3).run Try.prog w = .ok (.int .i64 0) w := by kernel_rfl
theorem zeroT (w : World) : (zeroValue 25).run Try.prog w = .ok (.agg #[.bool false, .string ⟨#[]⟩, .slice none 0 0]) w := by kernel_rfl
variable {w w1 : World} {b : Nat}
theorem ArIs.look {d : List (ByteArray × Int)} (h : ArIs w b d) (n : ByteArray) :
    (Instr.lookup 125 (.map (some b)) (.string n) true).run Try.prog w = .ok (.tuple #[.int .i64 ((lookK n d).getD 0), .bool (lookK n d).isSome]) w := by
  have g := run_look arU strU keyS injS (zeroI w) h n true
  rw [look_val] at g
  refine Eq.trans g ?_
  cases lookK n d <;> simp
theorem ArIs.put {d : List (ByteArray × Int)} (h : ArIs w b d) (n : ByteArray) (v : Int) :
    ∃ o, (Instr.mapUpdate 125 (.map (some b)) (.string n) (.int .i64 v)).run Try.prog w = .ok () { w with heap := w.heap.setIfInBounds b o } ∧ ArIs { w with heap := w.heap.setIfInBounds b o } b (putK n v d) := by
  obtain ⟨o, h1, h2⟩ := run_put arU strU keyS injS (fun a c q h => by subst h; simp [Instr.keyThatStays, sameBits_self (keyS a)]) h n (.int .i64 v)
  rw [put_val] at h2
  exact ⟨o, h1, h2⟩
theorem CoIs.look {d : List (ByteArray × (S25 × Option Addr × Nat))} (h : CoIs w b d) (n : ByteArray) :
    (Instr.lookup 126 (.map (some b)) (.string n) true).run Try.prog w = .ok (.tuple #[((lookK n d).map tyV).getD (.agg #[.bool false, .string ⟨#[]⟩, .slice none 0 0]), .bool (lookK n d).isSome]) w := by
  have g := run_look coU strU keyS injS (zeroT w) h n true
  rw [look_val] at g
  refine Eq.trans g ?_
  cases lookK n d <;> simp
theorem CoIs.put {d : List (ByteArray × (S25 × Option Addr × Nat))} (h : CoIs w b d) (n : ByteArray) (t : S25) (A : Option Addr) (c : Nat) :
    ∃ o, (Instr.mapUpdate 126 (.map (some b)) (.string n) (.agg #[.bool t.f0, .string t.f1, .slice A t.f2.length c])).run Try.prog w = .ok () { w with heap := w.heap.setIfInBounds b o } ∧ CoIs { w with heap := w.heap.setIfInBounds b o } b (putK n (t, A, c) d) := by
  obtain ⟨o, h1, h2⟩ := run_put coU strU keyS injS (fun a c q h => by subst h; simp [Instr.keyThatStays, sameBits_self (keyS a)]) h n (tyV (t, A, c))
  rw [put_val] at h2
  exact ⟨o, h1, h2⟩
theorem map_size {κ : Type} [DecidableEq κ] {enc : κ → Value} {l : List (κ × Value)} (h : MapIs enc w b l) : ∃ es clock, w.heap[b]? = some (.map es clock) ∧ es.size = l.length := by
  obtain ⟨es, c, h1, h2⟩ := h
  refine ⟨es, c, h1, ?_⟩
  have := congrArg List.length h2
  simpa using this
/-- What is known of a table of types: each reads. -/
def TyOk (w : World) (d : List (ByteArray × (S25 × Option Addr × Nat))) : Prop := ∀ p, p ∈ d → p.2.1.f2.length ≤ p.2.2.2 ∧ k25.C w p.2.2.1 p.2.1.f2.length p.2.1.f2
theorem putK_mem {β : Type} (s : ByteArray) (v : β) : ∀ (l : List (ByteArray × β)) (p : ByteArray × β), p ∈ putK s v l → p = (s, v) ∨ p ∈ l
  | [], p, h => by simp only [putK, List.mem_singleton] at h; exact .inl h
  | q :: l, p, h => by
    simp only [putK] at h
    split at h
    · rcases List.mem_cons.1 h with h | h
      · exact .inl h
      · exact .inr (List.mem_cons_of_mem _ h)
    · rcases List.mem_cons.1 h with h | h
      · exact .inr (h ▸ List.mem_cons_self ..)
      · rcases putK_mem s v l p h with h | h
        · exact .inl h
        · exact .inr (List.mem_cons_of_mem _ h)
theorem TyOk.put {d : List (ByteArray × (S25 × Option Addr × Nat))} (h : TyOk w d) {n : ByteArray} {t : S25} {A : Option Addr} {c : Nat} (hl : t.f2.length ≤ c) (hC : k25.C w A t.f2.length t.f2) : TyOk w (putK n (t, A, c) d) := fun p hp => by
  rcases putK_mem _ _ _ _ hp with rfl | hp
  · exact ⟨hl, hC⟩
  · exact h p hp
def bareK (d : List (ByteArray × (S25 × Option Addr × Nat))) : List (ByteArray × S25) := d.map fun p => (p.1, p.2.1)
theorem bare_put (n : ByteArray) (t : S25) (A : Option Addr) (c : Nat) : ∀ d : List (ByteArray × (S25 × Option Addr × Nat)), bareK (putK n (t, A, c) d) = putK n t (bareK d)
  | [] => rfl
  | p :: l => by
    have h := bare_put n t A c l
    simp only [bareK, List.map_cons, putK] at h ⊢
    by_cases hp : p.1 = n
    · rw [if_pos hp, if_pos hp]; rfl
    · rw [if_neg hp, if_neg hp, List.map_cons, h]
theorem bare_look (n : ByteArray) : ∀ d : List (ByteArray × (S25 × Option Addr × Nat)), lookK n (bareK d) = (lookK n d).map (·.1)
  | [] => rfl
  | p :: l => by
    have h := bare_look n l
    simp only [bareK, List.map_cons, lookK] at h ⊢
    by_cases hp : p.1 = n
    · rw [if_pos hp, if_pos hp]; rfl
    · rw [if_neg hp, if_neg hp, h]
theorem bare_len (d : List (ByteArray × (S25 × Option Addr × Nat))) : (bareK d).length = d.length := by simp [bareK]
theorem box2k {w : World} {g : Nat} {t : TypeId} {a b : Value} (h : w.heap[g]? = some (.cells #[a, b] t (0, 0))) : w.cell? ⟨g, 0, none⟩ = some a ∧ w.cell? ⟨g, 1, none⟩ = some b ∧ w.frozen? ⟨g, 0, none⟩ = false ∧ w.frozen? ⟨g, 1, none⟩ = false := ⟨(blk_cell h 0).trans rfl, (blk_cell h 1).trans rfl, blk_frozen h 0, blk_frozen h 1⟩
/-- The tables as lists. -/
def arD : List (ByteArray × Int) → List S124 → List (ByteArray × Int)
  | d, [] => d
  | d, o :: l => arD (putK o.f0 o.f1 d) l
def coD : List (ByteArray × S25) → List S92 → List (ByteArray × S25)
  | d, [] => d
  | d, o :: l => coD (putK o.f0 o.f1 d) l
end Go.Proofs.Ytgnklkmifcmlhaa.Q
/- Proved here: the contracts of slices.Clone. Conditions: those that each theorem names. -/
namespace Go.Proofs.Ytgnklkmifcmlhaa.Q
open Go.RowKit Go.Shelf Go.Proofs.YtgnklkmifcmlhaaW.PrintWords Go.Proofs.YtgnklkmifcmlhaaW.PrintMore
set_option linter.unusedVariables false
set_option linter.unusedSimpArgs false
attribute [local go_sem] Oper.semAt_some
def LockC (p : Prop) : Prop := p
theorem lockC_ {p : Prop} (h : LockC p) : p := h
theorem equalIn_slice {P : Program} {t e : TypeId} (h : P.underlying t = some (.slice e)) (d : Nat) (A : Option Addr) (n c : Nat) (w : World) : (Op.equalIn (d + 1) t (.slice A n c) (.slice none 0 0)).run P w = .ok A.isNone w := by
  cases A <;> simp [Op.equalIn, run_underlying h]
theorem eql_nil {P : Program} {t e : TypeId} (h : P.underlying t = some (.slice e)) (n c : Nat) (w : World) : (binOp .eql t (.slice none n c) (.slice none 0 0)).run P w = .ok (.bool true) w := by
  have h2 : (Op.equalIn Op.maxDepth t (.slice none n c) (.slice none 0 0)).run P w = .ok true w := equalIn_slice h 9999 none n c w
  simp [binOp, Op.equal, h2, Result.andThen]
theorem eql_some {P : Program} {t e : TypeId} (h : P.underlying t = some (.slice e)) (a : Addr) (n c : Nat) (w : World) : (binOp .eql t (.slice (some a) n c) (.slice none 0 0)).run P w = .ok (.bool false) w := by
  have h2 : (Op.equalIn Op.maxDepth t (.slice (some a) n c) (.slice none 0 0)).run P w = .ok false w := equalIn_slice h 9999 (some a) n c w
  simp [binOp, Op.equal, h2, Result.andThen]

theorem own_emptyTO (base : Nat) (W : World) (ok : Nat → Prop) (hok : ok W.heap.size) (hb : base ≤ W.heap.size) : Kd.N k124 124 (W.alloc (.cells #[] 124)) base ok (.slice (some ⟨W.heap.size, 0, none⟩) 0 0) [] :=
  Kd.R_N ⟨fun k hk => by simp [Value.ownBlock] at hk; rwa [← hk], [], World.ownsRow_made W #[] 0 hb (by unfold maxLen; omega) rfl, Reps.none _ _⟩
set_option maxHeartbeats 1000000 in
set_option maxRecDepth 100000 in
theorem clone_TO (A : Option Addr) (c : Nat) (l : List S124) (v w : World) (hv : Below v.heap.size v w) (hC : Kd.C k124 v A l.length l) (hl : l.length ≤ 100000) :
    Calls Try.prog 120 #[.slice A l.length c] w fun e w' => ∃ u, e = .returned u ∧ Kd.N k124 124 w' w.heap.size (fun k => k < v.heap.size ∨ w.heap.size ≤ k) u l ∧ Below w.heap.size w w' := by
  have HC := Aside0.mk hC
  cases A with
  | none =>
    have hn : l = [] := by
      cases l with
      | nil => rfl
      | cons a l =>
        obtain ⟨ad, he, _⟩ := hC.2.2 (by simp)
        cases he
    subst hn
    clear hv
    have heq := eql_nil Try.underlying78 0 c w
    clear HC hC hl
    have hb0 := Below.refl w.heap.size w
    go_enter Try.func120, Try.ntmps120
    go_wp2
    go_ret
    exact ⟨_, rfl, Kd.N_nil _ _ _ _ _, hb0⟩
  | some ad =>
    clear hC
    have heq := eql_some Try.underlying78 ad l.length c w
    have hb0 := Below.refl w.heap.size w
    go_enter Try.func120, Try.ntmps120
    go_wp2_with ((with_reducible refine gate_dst (N := 7) rfl ?_); refine lockC_ ?_)
    unfold LockC
    refine Kd.N_append_rows k124 (w0 := w) w.heap.size (by rfl) (.tmp 5) (.tmp 6) 78 124 (.agg #[(.string ⟨#[]⟩), (.int .i64 0)]) 24 (by rfl) Try.underlying78 info124 (by rfl) (by decide) (by decide) (.slice (some ⟨w.heap.size, 0, none⟩) 0 0) [] l (some ad) l.length c (fun k => k < v.heap.size ∨ w.heap.size ≤ k) (fun k => k < v.heap.size) (by rfl) (by rfl) (own_emptyTO _ w _ (.inr (Nat.le_refl _)) (Nat.le_refl _)) (Kd.F_below (Kd.C_F k124_heap HC.out) (below_step hv (below_one _))) (fun k hk => ⟨.inl hk, fun he => by have := hv.size; simp [Value.ownBlock] at he; omega⟩) (fun k hk => .inr (by simp at hk; omega)) (hb0.alloc (Nat.le_refl _) _) (by simp) (by simp only [List.length_nil]; omega) ?_
    intro v1 w1 hN hb1 hg hat
    rw [List.nil_append] at hN
    go_wp2
    go_ret
    exact ⟨_, rfl, hN, hb1⟩

theorem own_emptyCO (base : Nat) (W : World) (ok : Nat → Prop) (hok : ok W.heap.size) (hb : base ≤ W.heap.size) : Kd.N k92 92 (W.alloc (.cells #[] 92)) base ok (.slice (some ⟨W.heap.size, 0, none⟩) 0 0) [] :=
  Kd.R_N ⟨fun k hk => by simp [Value.ownBlock] at hk; rwa [← hk], [], World.ownsRow_made W #[] 0 hb (by unfold maxLen; omega) rfl, Reps.none _ _⟩
set_option maxHeartbeats 1000000 in
set_option maxRecDepth 100000 in
theorem clone_CO (A : Option Addr) (c : Nat) (l : List S92) (v w : World) (hv : Below v.heap.size v w) (hC : Kd.C k92 v A l.length l) (hl : l.length ≤ 100000) :
    Calls Try.prog 121 #[.slice A l.length c] w fun e w' => ∃ u, e = .returned u ∧ Kd.N k92 92 w' w.heap.size (fun k => k < v.heap.size ∨ w.heap.size ≤ k) u l ∧ Below w.heap.size w w' := by
  have HC := Aside0.mk hC
  cases A with
  | none =>
    have hn : l = [] := by
      cases l with
      | nil => rfl
      | cons a l =>
        obtain ⟨ad, he, _⟩ := hC.2.2 (by simp)
        cases he
    subst hn
    clear hv
    have heq := eql_nil Try.underlying79 0 c w
    clear HC hC hl
    have hb0 := Below.refl w.heap.size w
    go_enter Try.func121, Try.ntmps121
    go_wp2
    go_ret
    exact ⟨_, rfl, Kd.N_nil _ _ _ _ _, hb0⟩
  | some ad =>
    clear hC
    have heq := eql_some Try.underlying79 ad l.length c w
    have hb0 := Below.refl w.heap.size w
    go_enter Try.func121, Try.ntmps121
    go_wp2_with ((with_reducible refine gate_dst (N := 7) rfl ?_); refine lockC_ ?_)
    unfold LockC
    refine Kd.N_append_rows k92 (w0 := w) w.heap.size (by rfl) (.tmp 5) (.tmp 6) 79 92 (.agg #[(.string ⟨#[]⟩), (.bool false), (.string ⟨#[]⟩), (.slice none 0 0)]) 64 (by rfl) Try.underlying79 info92 (by rfl) (by decide) (by decide) (.slice (some ⟨w.heap.size, 0, none⟩) 0 0) [] l (some ad) l.length c (fun k => k < v.heap.size ∨ w.heap.size ≤ k) (fun k => k < v.heap.size) (by rfl) (by rfl) (own_emptyCO _ w _ (.inr (Nat.le_refl _)) (Nat.le_refl _)) (Kd.F_below (Kd.C_F k92_heap HC.out) (below_step hv (below_one _))) (fun k hk => ⟨.inl hk, fun he => by have := hv.size; simp [Value.ownBlock] at he; omega⟩) (fun k hk => .inr (by simp at hk; omega)) (hb0.alloc (Nat.le_refl _) _) (by simp) (by simp only [List.length_nil]; omega) ?_
    intro v1 w1 hN hb1 hg hat
    rw [List.nil_append] at hN
    go_wp2
    go_ret
    exact ⟨_, rfl, hN, hb1⟩
end Go.Proofs.Ytgnklkmifcmlhaa.Q
