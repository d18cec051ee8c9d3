/- Proved here: parts of the proof of a given statement (HRowSignatureTells): contracts of the functions that it reaches, what they answer, and in the last text the statement itself. Conditions: those that each theorem names. -/
import Derived.Test.YtecplbgdalchdaaZSTX5
import Derived.Test.YtecplbgdalchdaaZSTX8
import Derived.Test.YtecplbgdalchdaaZSTX4
/- Proved here: a signature's tables: a map of strings to whole numbers, a map of strings to types. Conditions: those that each theorem names. -/
namespace Go.Proofs.Ytecplbgdalchdaa.Q
open Go.RowKit Go.MapKept Go.Proofs.YtecplbgdalchdaaW.PrintWords Go.Proofs.YtecplbgdalchdaaW.PrintMore
set_option linter.unusedVariables false
set_option linter.unusedSimpArgs false

section
variable {β : Type}
def lookK (s : ByteArray) : List (ByteArray × β) → Option β
  | [] => none
  | p :: l => if p.1 = s then some p.2 else lookK s l
def putK (s : ByteArray) (v : β) : List (ByteArray × β) → List (ByteArray × β)
  | [] => [(s, v)]
  | p :: l => if p.1 = s then (s, v) :: l else p :: putK s v l
theorem lookK_put (s t : ByteArray) (v : β) : ∀ l : List (ByteArray × β), lookK t (putK s v l) = if t = s then some v else lookK t l
  | [] => by
    simp only [putK, lookK]
    by_cases h : s = t
    · rw [if_pos h, if_pos h.symm]
    · rw [if_neg h, if_neg (fun e => h e.symm)]
  | p :: l => by
    simp only [putK]
    by_cases h : p.1 = s
    · rw [if_pos h]
      simp only [lookK]
      by_cases h2 : s = t
      · rw [if_pos h2, if_pos h2.symm]
      · rw [if_neg h2, if_neg (fun e => h2 e.symm), if_neg (fun e => h2 (h.symm.trans e))]
    · rw [if_neg h]
      simp only [lookK, lookK_put s t v l]
      by_cases h2 : p.1 = t
      · rw [if_pos h2, if_pos h2, if_neg (fun e => h (h2.trans e))]
      · rw [if_neg h2, if_neg h2]
/-- Values by a function. -/
def valK (f : β → Value) (l : List (ByteArray × β)) : List (ByteArray × Value) := l.map fun p => (p.1, f p.2)
theorem look_val (f : β → Value) (s : ByteArray) : ∀ l : List (ByteArray × β), lookM s (valK f l) = (lookK s l).map f
  | [] => rfl
  | p :: l => by
    have h := look_val f s l
    simp only [valK, List.map_cons, lookM, lookK] at h ⊢
    by_cases hp : p.1 = s
    · rw [if_pos hp, if_pos hp]; rfl
    · rw [if_neg hp, if_neg hp, h]
theorem put_val (f : β → Value) (s : ByteArray) (v : β) : ∀ l : List (ByteArray × β), putM s (f v) (valK f l) = valK f (putK s v l)
  | [] => rfl
  | p :: l => by
    have h := put_val f s v l
    simp only [valK, List.map_cons, putM, putK] at h ⊢
    by_cases hp : p.1 = s
    · rw [if_pos hp, if_pos hp]; rfl
    · rw [if_neg hp, if_neg hp, h]; rfl
end
def tyV (p : S24 × Option Addr × Nat) : Value := .agg #[.bool p.1.f0, .string p.1.f1, .slice p.2.1 p.1.f2.length p.2.2]
abbrev ArIs (w : World) (b : Nat) (d : List (ByteArray × Int)) : Prop := MapIs encS w b (valK (Value.int .i64) d)
abbrev CoIs (w : World) (b : Nat) (d : List (ByteArray × (S24 × Option Addr × Nat))) : Prop := MapIs encS w b (valK tyV d)
theorem arU : Try.prog.underlying 160 = some (.map 9 3) := by kernel_rfl
theorem coU : Try.prog.underlying 161 = some (.map 9 24) := by kernel_rfl
theorem zeroI (w : World) : (zeroValue 3).run Try.prog w = .ok (.int .i64 0) w := by kernel_rfl
variable {w w1 : World} {b : Nat}
theorem ArIs.look {d : List (ByteArray × Int)} (h : ArIs w b d) (n : ByteArray) :
    (Instr.lookup 160 (.map (some b)) (.string n) true).run Try.prog w = .ok (.tuple #[.int .i64 ((lookK n d).getD 0), .bool (lookK n d).isSome]) w := by
  have g := run_look arU strU keyS injS (zeroI w) h n true
  rw [look_val] at g
  refine Eq.trans g ?_
  cases lookK n d <;> simp
theorem ArIs.put {d : List (ByteArray × Int)} (h : ArIs w b d) (n : ByteArray) (v : Int) :
    ∃ o, (Instr.mapUpdate 160 (.map (some b)) (.string n) (.int .i64 v)).run Try.prog w = .ok () { w with heap := w.heap.setIfInBounds b o } ∧ ArIs { w with heap := w.heap.setIfInBounds b o } b (putK n v d) := by
  obtain ⟨o, h1, h2⟩ := run_put arU strU keyS injS (fun a c q h => by subst h; simp [Instr.keyThatStays, sameBits_self (keyS a)]) h n (.int .i64 v)
  rw [put_val] at h2
  exact ⟨o, h1, h2⟩
theorem CoIs.put {d : List (ByteArray × (S24 × Option Addr × Nat))} (h : CoIs w b d) (n : ByteArray) (t : S24) (A : Option Addr) (c : Nat) :
    ∃ o, (Instr.mapUpdate 161 (.map (some b)) (.string n) (.agg #[.bool t.f0, .string t.f1, .slice A t.f2.length c])).run Try.prog w = .ok () { w with heap := w.heap.setIfInBounds b o } ∧ CoIs { w with heap := w.heap.setIfInBounds b o } b (putK n (t, A, c) d) := by
  obtain ⟨o, h1, h2⟩ := run_put coU strU keyS injS (fun a c q h => by subst h; simp [Instr.keyThatStays, sameBits_self (keyS a)]) h n (tyV (t, A, c))
  rw [put_val] at h2
  exact ⟨o, h1, h2⟩
theorem map_size {κ : Type} [DecidableEq κ] {enc : κ → Value} {l : List (κ × Value)} (h : MapIs enc w b l) : ∃ es clock, w.heap[b]? = some (.map es clock) ∧ es.size = l.length := by
  obtain ⟨es, c, h1, h2⟩ := h
  refine ⟨es, c, h1, ?_⟩
  have := congrArg List.length h2
  simpa using this
/-- What is known of a table of types: each reads. -/
def TyOk (w : World) (d : List (ByteArray × (S24 × Option Addr × Nat))) : Prop := ∀ p, p ∈ d → p.2.1.f2.length ≤ p.2.2.2 ∧ k24.C w p.2.2.1 p.2.1.f2.length p.2.1.f2
theorem putK_mem {β : Type} (s : ByteArray) (v : β) : ∀ (l : List (ByteArray × β)) (p : ByteArray × β), p ∈ putK s v l → p = (s, v) ∨ p ∈ l
  | [], p, h => by simp only [putK, List.mem_singleton] at h; exact .inl h
  | q :: l, p, h => by
    simp only [putK] at h
    split at h
    · rcases List.mem_cons.1 h with h | h
      · exact .inl h
      · exact .inr (List.mem_cons_of_mem _ h)
    · rcases List.mem_cons.1 h with h | h
      · exact .inr (h ▸ List.mem_cons_self ..)
      · rcases putK_mem s v l p h with h | h
        · exact .inl h
        · exact .inr (List.mem_cons_of_mem _ h)
theorem TyOk.put {d : List (ByteArray × (S24 × Option Addr × Nat))} (h : TyOk w d) {n : ByteArray} {t : S24} {A : Option Addr} {c : Nat} (hl : t.f2.length ≤ c) (hC : k24.C w A t.f2.length t.f2) : TyOk w (putK n (t, A, c) d) := fun p hp => by
  rcases putK_mem _ _ _ _ hp with rfl | hp
  · exact ⟨hl, hC⟩
  · exact h p hp
def bareK (d : List (ByteArray × (S24 × Option Addr × Nat))) : List (ByteArray × S24) := d.map fun p => (p.1, p.2.1)
theorem bare_put (n : ByteArray) (t : S24) (A : Option Addr) (c : Nat) : ∀ d : List (ByteArray × (S24 × Option Addr × Nat)), bareK (putK n (t, A, c) d) = putK n t (bareK d)
  | [] => rfl
  | p :: l => by
    have h := bare_put n t A c l
    simp only [bareK, List.map_cons, putK] at h ⊢
    by_cases hp : p.1 = n
    · rw [if_pos hp, if_pos hp]; rfl
    · rw [if_neg hp, if_neg hp, List.map_cons, h]
theorem bare_len (d : List (ByteArray × (S24 × Option Addr × Nat))) : (bareK d).length = d.length := by simp [bareK]
theorem box2k {w : World} {g : Nat} {t : TypeId} {a b : Value} (h : w.heap[g]? = some (.cells #[a, b] t (0, 0))) : w.cell? ⟨g, 0, none⟩ = some a ∧ w.cell? ⟨g, 1, none⟩ = some b ∧ w.frozen? ⟨g, 0, none⟩ = false ∧ w.frozen? ⟨g, 1, none⟩ = false := ⟨(blk_cell h 0).trans rfl, (blk_cell h 1).trans rfl, blk_frozen h 0, blk_frozen h 1⟩
/-- The tables as lists. -/
def arD : List (ByteArray × Int) → List S106 → List (ByteArray × Int)
  | d, [] => d
  | d, o :: l => arD (putK o.f0 o.f1 d) l
def coD : List (ByteArray × S24) → List S108 → List (ByteArray × S24)
  | d, [] => d
  | d, o :: l => coD (putK o.f0 o.f1 d) l
end Go.Proofs.Ytecplbgdalchdaa.Q
/- Proved here: the contract of signature.tables.over. Conditions: those that each theorem names. -/
namespace Go.Proofs.Ytecplbgdalchdaa.Q
open Go.RowKit Go.Shelf Go.Proofs.YtecplbgdalchdaaW.PrintWords Go.Proofs.YtecplbgdalchdaaW.PrintMore
set_option linter.unusedVariables false
set_option linter.unusedSimpArgs false
attribute [local go_sem] Oper.semAt_some

mutual
def overT (d : List (ByteArray × Int)) : S24 → Bool
  | ⟨v, n, l⟩ => v || (decide (lookK n d = some (l.length : Int)) && overL d l)
def overL (d : List (ByteArray × Int)) : List S24 → Bool
  | [] => true
  | a :: l => overT d a && overL d l
end
theorem overT_eq (d : List (ByteArray × Int)) (t : S24) : overT d t = (t.f0 || (decide (lookK t.f1 d = some (t.f2.length : Int)) && overL d t.f2)) := by cases t; simp [overT]
theorem over_contains (d : List (ByteArray × Int)) : ∀ l : List S24, containsO (fun x => some (!overT d x)) l = some (!overL d l)
  | [] => rfl
  | a :: l => by
    simp only [containsO, Option.bind_some, overL]
    rw [over_contains d l]
    cases overT d a <;> simp
set_option maxHeartbeats 1000000 in
theorem over1_pred (d : List (ByteArray × Int)) (m1 : Nat) (v2 : Value) (B : Nat) (x : S24) (w : World) (hB : w.heap[B]? = some (.cells #[.map (some m1), v2] 163)) (hd : ArIs w m1 d)
    (ih : ∀ (A : Option Addr) (c : Nat) (W : World), ArIs W m1 d → k24.C W A x.f2.length x.f2 → x.f2.length ≤ c → Calls Try.prog 157 #[.agg #[.map (some m1), v2], .agg #[.bool x.f0, .string x.f1, .slice A x.f2.length c]] W fun e w' => e = .returned (.bool (overT d x)) ∧ Below W.heap.size W w') :
    PredTY 205 #[.pointer (some ⟨B, 0, none⟩)] x (!overT d x) w := by
  intro W A c hb hl hC
  have hBW := blk_below hB hb
  have hdW := MapIs.later hd hb
  have hb0 := below_one (w := W) (.cells #[.bool x.f0, .string x.f1, .slice A x.f2.length c] 24)
  obtain ⟨b0, b1, b2, b3⟩ := box2k (blk_below hBW hb0)
  obtain ⟨x0, x1, x2, _, _, _, _⟩ := box3s (blk_new W (.cells #[.bool x.f0, .string x.f1, .slice A x.f2.length c] 24))
  have hcall := ih A c _ (MapIs.later hdW hb0) (Kd.C_below hC hb0) hl
  have HB := Aside0.mk hb
  clear ih hB hd hb hl hC hBW hdW
  show Calls Try.prog 205 #[.agg #[.bool x.f0, .string x.f1, .slice A x.f2.length c], .pointer (some ⟨B, 0, none⟩)] W _
  go_enter Try.func205, Try.ntmps205
  go_wp2_with (go_at_call 157; refine hcall.mono ?_; rintro e W1 ⟨rfl, hc1⟩)
  go_ret
  exact ⟨rfl, HB.out.trans ((below_step hb0 hc1).mono HB.out.size)⟩
set_option maxHeartbeats 2000000 in
set_option maxRecDepth 100000 in
theorem over_calls (d : List (ByteArray × Int)) (m1 : Nat) (v2 : Value) : ∀ (n : Nat) (t : S24) (A : Option Addr) (c : Nat) (w : World), szT t ≤ n → ArIs w m1 d → k24.C w A t.f2.length t.f2 → t.f2.length ≤ c →
    Calls Try.prog 157 #[.agg #[.map (some m1), v2], .agg #[.bool t.f0, .string t.f1, .slice A t.f2.length c]] w fun e w' => e = .returned (.bool (overT d t)) ∧ Below w.heap.size w w'
  | 0, t, _, _, _, h, _, _, _ => by have := szT_pos t; omega
  | n + 1, t, A, c, w, hn, hd, hA, hc => by
    have hb0 := (two_new w (.cells #[.map (some m1), v2] 163) (.cells #[.bool t.f0, .string t.f1, .slice A t.f2.length c] 24)).1
    have BB := (two_new w (.cells #[.map (some m1), v2] 163) (.cells #[.bool t.f0, .string t.f1, .slice A t.f2.length c] 24)).2.1
    have BX := (two_new w (.cells #[.map (some m1), v2] 163) (.cells #[.bool t.f0, .string t.f1, .slice A t.f2.length c] 24)).2.2
    obtain ⟨b0, b1, b2, b3⟩ := box2k BB
    obtain ⟨x0, x1, x2, x3, x4, x5, x6⟩ := box3s BX
    have hd0 := MapIs.later hd hb0
    have r1 := ArIs.look hd0 t.f1
    rw [overT_eq]
    cases hv : t.f0 with
    | true =>
      rw [hv] at x0 BX hb0 BB b0 b1 x1 x2 hd0 r1
      rw [Bool.true_or]
      clear hA hd0 r1 hd x3 x4 x5 x6
      go_enter Try.func157, Try.ntmps157
      go_wp2
      go_ret
      exact ⟨rfl, hb0⟩
    | false =>
      rw [hv] at x0 BX hb0 BB b0 b1 x1 x2 hd0 r1 x3 x4 x5 x6
      rw [Bool.false_or]
      have hcon := fun (h : True) => containsFunc_TY 205 #[.pointer (some ⟨w.heap.size, 0, none⟩)] (enters_of Try.func205 (by kernel_rfl) rfl) (fun x => some (!overT d x)) _ A c t.f2 _ (Kd.C_below hA hb0)
        (fun x hx b hb => by
          have hp := over1_pred d m1 v2 w.heap.size x _ BB hd0 (fun A' c' W h1 h2 h3 => over_calls d m1 v2 n x A' c' W (by have := szL_mem t.f2 x hx; have := szT_eq' t; omega) h1 h2 h3)
          rwa [Option.some.inj hb] at hp) (over_contains d t.f2)
      have hcn := hcon trivial
      clear hcon hn hA hd
      generalize hlk : lookK t.f1 d = lk at *
      generalize overL d t.f2 = ov at *
      cases lk with
      | none =>
        simp only [Option.getD_none, Option.isSome_none] at r1
        rw [decide_eq_false (by simp), Bool.false_and]
        clear hcn x3 x4 x5 x6
        go_enter Try.func157, Try.ntmps157
        go_wp2
        go_ret
        exact ⟨rfl, hb0⟩
      | some a =>
        simp only [Option.getD_some, Option.isSome_some] at r1
        by_cases ha : a = (t.f2.length : Int)
        · subst ha
          rw [decide_eq_true rfl, Bool.true_and]
          go_enter Try.func157, Try.ntmps157
          go_wp2_with (go_at_call 204; refine hcn.mono ?_; rintro e W1 ⟨rfl, hc1⟩)
          go_ret
          exact ⟨by simp, below_step hb0 hc1⟩
        · rw [decide_eq_false (by simpa using ha), Bool.false_and]
          have ha1 : (a == (t.f2.length : Int)) = false := beq_eq_false_iff_ne.mpr ha
          clear hcn x3 x4 x5 x6
          go_enter Try.func157, Try.ntmps157
          go_wp2
          go_ret
          exact ⟨rfl, hb0⟩
end Go.Proofs.Ytecplbgdalchdaa.Q
/- Proved here: the contracts of slices.Clone. Conditions: those that each theorem names. -/
namespace Go.Proofs.Ytecplbgdalchdaa.Q
open Go.RowKit Go.Shelf Go.Proofs.YtecplbgdalchdaaW.PrintWords Go.Proofs.YtecplbgdalchdaaW.PrintMore
set_option linter.unusedVariables false
set_option linter.unusedSimpArgs false
attribute [local go_sem] Oper.semAt_some
def LockC (p : Prop) : Prop := p
theorem lockC_ {p : Prop} (h : LockC p) : p := h
theorem equalIn_slice {P : Program} {t e : TypeId} (h : P.underlying t = some (.slice e)) (d : Nat) (A : Option Addr) (n c : Nat) (w : World) : (Op.equalIn (d + 1) t (.slice A n c) (.slice none 0 0)).run P w = .ok A.isNone w := by
  cases A <;> simp [Op.equalIn, run_underlying h]
theorem eql_nil {P : Program} {t e : TypeId} (h : P.underlying t = some (.slice e)) (n c : Nat) (w : World) : (binOp .eql t (.slice none n c) (.slice none 0 0)).run P w = .ok (.bool true) w := by
  have h2 : (Op.equalIn Op.maxDepth t (.slice none n c) (.slice none 0 0)).run P w = .ok true w := equalIn_slice h 9999 none n c w
  simp [binOp, Op.equal, h2, Result.andThen]
theorem eql_some {P : Program} {t e : TypeId} (h : P.underlying t = some (.slice e)) (a : Addr) (n c : Nat) (w : World) : (binOp .eql t (.slice (some a) n c) (.slice none 0 0)).run P w = .ok (.bool false) w := by
  have h2 : (Op.equalIn Op.maxDepth t (.slice (some a) n c) (.slice none 0 0)).run P w = .ok false w := equalIn_slice h 9999 (some a) n c w
  simp [binOp, Op.equal, h2, Result.andThen]

theorem own_emptyTO (base : Nat) (W : World) (ok : Nat → Prop) (hok : ok W.heap.size) (hb : base ≤ W.heap.size) : Kd.N k106 106 (W.alloc (.cells #[] 106)) base ok (.slice (some ⟨W.heap.size, 0, none⟩) 0 0) [] :=
  Kd.R_N ⟨fun k hk => by simp [Value.ownBlock] at hk; rwa [← hk], [], World.ownsRow_made W #[] 0 hb (by unfold maxLen; omega) rfl, Reps.none _ _⟩
set_option maxHeartbeats 1000000 in
set_option maxRecDepth 100000 in
theorem clone_TO (A : Option Addr) (c : Nat) (l : List S106) (v w : World) (hv : Below v.heap.size v w) (hC : Kd.C k106 v A l.length l) (hl : l.length ≤ 100000) :
    Calls Try.prog 146 #[.slice A l.length c] w fun e w' => ∃ u, e = .returned u ∧ Kd.N k106 106 w' w.heap.size (fun k => k < v.heap.size ∨ w.heap.size ≤ k) u l ∧ Below w.heap.size w w' := by
  have HC := Aside0.mk hC
  cases A with
  | none =>
    have hn : l = [] := by
      cases l with
      | nil => rfl
      | cons a l =>
        obtain ⟨ad, he, _⟩ := hC.2.2 (by simp)
        cases he
    subst hn
    clear hv
    have heq := eql_nil Try.underlying91 0 c w
    clear HC hC hl
    have hb0 := Below.refl w.heap.size w
    go_enter Try.func146, Try.ntmps146
    go_wp2
    go_ret
    exact ⟨_, rfl, Kd.N_nil _ _ _ _ _, hb0⟩
  | some ad =>
    clear hC
    have heq := eql_some Try.underlying91 ad l.length c w
    have hb0 := Below.refl w.heap.size w
    go_enter Try.func146, Try.ntmps146
    go_wp2_with ((with_reducible refine gate_dst (N := 7) rfl ?_); refine lockC_ ?_)
    unfold LockC
    refine Kd.N_append_rows k106 (w0 := w) w.heap.size (by rfl) (.tmp 5) (.tmp 6) 91 106 (.agg #[(.string ⟨#[]⟩), (.int .i64 0)]) 24 (by rfl) Try.underlying91 info106 (by rfl) (by decide) (by decide) (.slice (some ⟨w.heap.size, 0, none⟩) 0 0) [] l (some ad) l.length c (fun k => k < v.heap.size ∨ w.heap.size ≤ k) (fun k => k < v.heap.size) (by rfl) (by rfl) (own_emptyTO _ w _ (.inr (Nat.le_refl _)) (Nat.le_refl _)) (Kd.F_below (Kd.C_F k106_heap HC.out) (below_step hv (below_one _))) (fun k hk => ⟨.inl hk, fun he => by have := hv.size; simp [Value.ownBlock] at he; omega⟩) (fun k hk => .inr (by simp at hk; omega)) (hb0.alloc (Nat.le_refl _) _) (by simp) (by simp only [List.length_nil]; omega) ?_
    intro v1 w1 hN hb1 hg hat
    rw [List.nil_append] at hN
    go_wp2
    go_ret
    exact ⟨_, rfl, hN, hb1⟩

theorem own_emptyCO (base : Nat) (W : World) (ok : Nat → Prop) (hok : ok W.heap.size) (hb : base ≤ W.heap.size) : Kd.N k108 108 (W.alloc (.cells #[] 108)) base ok (.slice (some ⟨W.heap.size, 0, none⟩) 0 0) [] :=
  Kd.R_N ⟨fun k hk => by simp [Value.ownBlock] at hk; rwa [← hk], [], World.ownsRow_made W #[] 0 hb (by unfold maxLen; omega) rfl, Reps.none _ _⟩
set_option maxHeartbeats 1000000 in
set_option maxRecDepth 100000 in
theorem clone_CO (A : Option Addr) (c : Nat) (l : List S108) (v w : World) (hv : Below v.heap.size v w) (hC : Kd.C k108 v A l.length l) (hl : l.length ≤ 100000) :
    Calls Try.prog 147 #[.slice A l.length c] w fun e w' => ∃ u, e = .returned u ∧ Kd.N k108 108 w' w.heap.size (fun k => k < v.heap.size ∨ w.heap.size ≤ k) u l ∧ Below w.heap.size w w' := by
  have HC := Aside0.mk hC
  cases A with
  | none =>
    have hn : l = [] := by
      cases l with
      | nil => rfl
      | cons a l =>
        obtain ⟨ad, he, _⟩ := hC.2.2 (by simp)
        cases he
    subst hn
    clear hv
    have heq := eql_nil Try.underlying92 0 c w
    clear HC hC hl
    have hb0 := Below.refl w.heap.size w
    go_enter Try.func147, Try.ntmps147
    go_wp2
    go_ret
    exact ⟨_, rfl, Kd.N_nil _ _ _ _ _, hb0⟩
  | some ad =>
    clear hC
    have heq := eql_some Try.underlying92 ad l.length c w
    have hb0 := Below.refl w.heap.size w
    go_enter Try.func147, Try.ntmps147
    go_wp2_with ((with_reducible refine gate_dst (N := 7) rfl ?_); refine lockC_ ?_)
    unfold LockC
    refine Kd.N_append_rows k108 (w0 := w) w.heap.size (by rfl) (.tmp 5) (.tmp 6) 92 108 (.agg #[(.string ⟨#[]⟩), (.bool false), (.string ⟨#[]⟩), (.slice none 0 0)]) 64 (by rfl) Try.underlying92 info108 (by rfl) (by decide) (by decide) (.slice (some ⟨w.heap.size, 0, none⟩) 0 0) [] l (some ad) l.length c (fun k => k < v.heap.size ∨ w.heap.size ≤ k) (fun k => k < v.heap.size) (by rfl) (by rfl) (own_emptyCO _ w _ (.inr (Nat.le_refl _)) (Nat.le_refl _)) (Kd.F_below (Kd.C_F k108_heap HC.out) (below_step hv (below_one _))) (fun k hk => ⟨.inl hk, fun he => by have := hv.size; simp [Value.ownBlock] at he; omega⟩) (fun k hk => .inr (by simp at hk; omega)) (hb0.alloc (Nat.le_refl _) _) (by simp) (by simp only [List.length_nil]; omega) ?_
    intro v1 w1 hN hb1 hg hat
    rw [List.nil_append] at hN
    go_wp2
    go_ret
    exact ⟨_, rfl, hN, hb1⟩
end Go.Proofs.Ytecplbgdalchdaa.Q
