/- Proved here: the contract of types.match. Conditions: those that each theorem names. -/
import Derived.Test.YtgnklkmifcmlhaaHRowB
import Derived.Test.YtgnklkmifcmlhaaHTwin
import Derived.Test.YtgnklkmifcmlhaaHFind
import Derived.Test.YtgnklkmifcmlhaaHSame
import Derived.Deep.AppendLies
import Derived.Deep.RegionHeld3
namespace Go.Proofs.Ytgnklkmifcmlhaa.Q
open Go.RowKit Go.Shelf Go.Proofs.YtgnklkmifcmlhaaW.PrintWords Go.Proofs.YtgnklkmifcmlhaaW.PrintMore
set_option linter.unusedVariables false
set_option linter.unusedSimpArgs false
attribute [local go_sem] Oper.semAt_some

/-! ### match -/
mutual
def mtT : S25 → S25 → List S59 → Option (List S59)
  | ⟨pv, pn, pl⟩, t, s =>
    if pv = true then (match s.find? (findP pn) with | some b => if cmpT b.f1 t = 0 then some s else none | none => some (s ++ [⟨pn, t⟩]))
    else if t.f0 = true ∨ t.f1 ≠ pn ∨ t.f2.length ≠ pl.length then none else mtL pl t.f2 s
def mtL : List S25 → List S25 → List S59 → Option (List S59)
  | p :: l, t :: m, s => match mtT p t s with | some s' => mtL l m s' | none => none
  | _, _, s => some s
end
theorem mtL_len : ∀ (p : S25) (t : S25) (s s' : List S59), mtT p t s = some s' → s'.length ≤ s.length + szT p := by
  intro p
  have : ∀ n p t s s', szT p ≤ n → mtT p t s = some s' → s'.length ≤ s.length + szT p := by
    intro n
    induction n with
    | zero => intro p t s s' h; have := szT_pos p; omega
    | succ n ih =>
      intro p t s s' hn h
      obtain ⟨pv, pn, pl⟩ := p
      simp only [szT] at hn ⊢
      simp only [mtT] at h
      split at h
      · split at h
        · split at h
          · injection h with h; subst h; omega
          · simp at h
        · injection h with h; subst h; simp
      · split at h
        · simp at h
        · have hL : ∀ (l m : List S25) (s s' : List S59), szL l ≤ n → mtL l m s = some s' → s'.length ≤ s.length + szL l := by
            intro l
            induction l with
            | nil => intro m s s' _ h; cases m <;> (simp only [mtL, Option.some.injEq] at h; subst h; omega)
            | cons a l ihl =>
              intro m s s' hl h
              cases m with
              | nil => simp only [mtL, Option.some.injEq] at h; subst h; omega
              | cons b m =>
                simp only [szL] at hl ⊢
                simp only [mtL] at h
                cases hq : mtT a b s with
                | none => rw [hq] at h; simp at h
                | some s1 =>
                  rw [hq] at h
                  have h1 := ih a b s s1 (by omega) hq
                  have h2 := ihl m s1 s' (by omega) h
                  omega
          have := hL pl t.f2 s s' (by omega) h
          omega
  exact fun t s s' h => this _ p t s s' (Nat.le_refl _) h
/-- What match hands back. -/
def MatchPost (w0 w : World) (v : Value) (o : Option (List S59)) (e : Ending) (w' : World) : Prop :=
  w.grownBy w' v.ownBlock ∧ match o with
    | some s' => ∃ v', e = .returned (.tuple #[v', .bool true]) ∧ RowB w' w0.heap.size v' s' ∧ (v'.ownBlock = v.ownBlock ∨ ∃ b, v'.ownBlock = some b ∧ w.heap.size ≤ b)
    | none => ∃ A n c, e = .returned (.tuple #[.slice A n c, .bool false])
theorem grown_of_below {w w' : World} (h : Below w.heap.size w w') (row : Option Nat) : w.grownBy w' row := ⟨h.os, h.tape, h.output, h.size, fun k hk _ => h.block k hk⟩

theorem match_next {w0 w W3 w3 : World} {pn : ByteArray} {t : S25} {s : List S59} {RA A4 : Option Addr} {rc c4 g cap : Nat} {inner : List Value} {vs : Nat → Value} {o : Obj}
    (hown : w.ownsRow w0.heap.size 59 4 (.slice RA s.length rc) s.length inner)
    (hel : ∀ j x, s[j]? = some x → inner[j * 4]? = some (.string x.f0) ∧ inner[j * 4 + 1]? = some (.bool x.f1.f0) ∧ inner[j * 4 + 2]? = some (.string x.f1.f1) ∧ inner[j * 4 + 3]? = some (vs j) ∧ WT w (fun k => w0.heap.size ≤ k ∧ some k ≠ (Value.slice RA s.length rc).ownBlock) (vs j) x.f1.f2)
    (hb : Below w0.heap.size w0 w) (hb3 : Below w.heap.size w W3) (hW : WT W3 (fun k => w.heap.size ≤ k) (.slice A4 t.f2.length c4) t.f2)
    (hown3 : w3.ownsRow w0.heap.size 59 4 (.slice (some ⟨g, 0, none⟩) (s.length + 1) cap) (s.length + 1) (inner ++ [.string pn, .bool t.f0, .string t.f1, .slice A4 t.f2.length c4]))
    (hgr : (W3.alloc o).grownBy w3 (Value.slice RA s.length rc).ownBlock) (hat : (Value.slice RA s.length rc).ownBlock = some g ∨ g = (W3.alloc o).heap.size) :
    w.grownBy w3 (Value.slice RA s.length rc).ownBlock ∧ RowB w3 w0.heap.size (.slice (some ⟨g, 0, none⟩) (s.length + 1) cap) (s ++ [⟨pn, t⟩]) ∧
      ((Value.slice (some ⟨g, 0, none⟩) (s.length + 1) cap).ownBlock = (Value.slice RA s.length rc).ownBlock ∨ ∃ b, (Value.slice (some ⟨g, 0, none⟩) (s.length + 1) cap).ownBlock = some b ∧ w.heap.size ≤ b) := by
  have hbo : Below w.heap.size w (W3.alloc o) := hb3.alloc hb3.size _
  have hrb : ∀ k, (Value.slice RA s.length rc).ownBlock = some k → k < w.heap.size := fun k hk => own_lt hown k hk
  refine ⟨⟨hgr.os.trans hbo.os, hgr.tape.trans hbo.tape, hgr.output.trans hbo.output, Nat.le_trans hbo.size hgr.size, fun k hk hn => (hgr.block k (Nat.lt_of_lt_of_le hk hbo.size) hn).trans (hbo.block k hk)⟩, ?_, ?_⟩
  · exact RowB.next (x := ⟨pn, t⟩) (own_later hown hbo) (fun j x hj => ⟨(hel j x hj).1, (hel j x hj).2.1, (hel j x hj).2.2.1, (hel j x hj).2.2.2.1, (hel j x hj).2.2.2.2.later hbo⟩) ((hW.later (below_one _)).mono (fun k hk => ⟨Nat.le_trans hb.size hk, fun e => by have := hrb k e.symm; omega⟩)) hown3 hgr hat
  · rcases hat with hat | hat
    · exact .inl (by rw [hat]; rfl)
    · exact .inr ⟨g, rfl, by rw [hat]; exact hbo.size⟩

set_option maxHeartbeats 2000000 in
set_option maxRecDepth 100000 in
theorem match_var (w0 : World) (p t : S25) (s : List S59) (A : Option Addr) (c : Nat) (B : Option Addr) (d : Nat) (v : Value) (w : World) (hp : p.f0 = true) (hA : k25.C w0 A p.f2.length p.f2) (hB : k25.C w0 B t.f2.length t.f2) (hc : p.f2.length ≤ c) (hd : t.f2.length ≤ d)
    (hb : Below w0.heap.size w0 w) (hv : RowB w w0.heap.size v s) (hs : s.length ≤ 1000000) (ht : szT t ≤ 5864062014805) :
    Calls Try.prog 66 #[.agg #[.bool p.f0, .string p.f1, .slice A p.f2.length c], .agg #[.bool t.f0, .string t.f1, .slice B t.f2.length d], v] w (MatchPost w0 w v (mtT p t s)) := by
  obtain ⟨pv, pn, pl⟩ := p
  dsimp only at hp hA hc ⊢
  subst hp
  simp only [mtT, if_true]
  obtain ⟨RA, rc, rfl⟩ := hv.slice
  have hb2 := below_two (w := w) (.cells #[.bool true, .string pn, .slice A pl.length c] 25) (.cells #[.bool t.f0, .string t.f1, .slice B t.f2.length d] 25)
  have B3 := blk_mid (w := w) (.cells #[.bool true, .string pn, .slice A pl.length c] 25) (.cells #[.bool t.f0, .string t.f1, .slice B t.f2.length d] 25)
  have B4 := blk_top (w := w) (.cells #[.bool true, .string pn, .slice A pl.length c] 25) (.cells #[.bool t.f0, .string t.f1, .slice B t.f2.length d] 25)
  obtain ⟨SA, sc, he, hsl, hsC⟩ := hv.reads
  injection he with h1 _ h2
  subst h1 h2
  have hBw := Kd.C_below hB hb
  cases hf : s.find? (findP pn) with
  | some b =>
    have hfc := fun W (hw : Below w.heap.size w W) => find_at RA rc s pn b.f1.f0 b.f1.f1 b.f1.f2 true W (Kd.C_below hsC hw) hsl (by simp [types_find.f, hf])
    have h35 := fun W A1 c1 hA1 hc1 (hw : Below w.heap.size w W) => same_calls b.f1 t A1 c1 B d W hA1 hc1 (Kd.C_below hBw hw) hd
    clear hf hA hB hBw hsC
    dsimp only
    generalize hq : cmpT b.f1 t = q at *
    clear hq
    generalize b.f1 = x at *
    have HV := Aside0.mk hv
    clear hv
    by_cases h0 : q = 0
    · rw [show (q == 0) = true by rw [h0]; rfl] at h35
      rw [if_pos h0]
      clear h0
      go_enter Try.func66, Try.ntmps66
      go_wp2_with (first
        | (go_at_call 100; refine (hfc _ hb2).mono ?_; rintro e W1 ⟨A3, c3, rfl, hl3, hC3, hb1⟩; have hbw := below_step hb2 hb1; have B31 := blk_below B3 hb1; have B41 := blk_below B4 hb1; obtain ⟨x0, x1, x2, x3, x4, x5, x6⟩ := box3s B31; obtain ⟨y0, y1, y2, y3, y4, y5, y6⟩ := box3s B41)
        | (go_at_call 35; refine (h35 _ A3 c3 (Kd.C_below hC3 (below_one _)) hl3 (hbw.alloc hbw.size _)).mono ?_; rintro e W2 ⟨rfl, hb3⟩))
      have hbf := below_step (hbw.alloc hbw.size (.cells #[.bool x.f0, .string x.f1, .slice A3 x.f2.length c3] 25)) hb3
      refine bodyPost_ret (results_tmp2 rfl _ _ _) rfl ⟨grown_of_below hbf _, ?_⟩
      exact ⟨_, rfl, HV.out.later hbf, .inl rfl⟩
    · rw [beq_eq_false_iff_ne.mpr h0] at h35
      rw [if_neg h0]
      clear h0
      go_enter Try.func66, Try.ntmps66
      go_wp2_with (first
        | (go_at_call 100; refine (hfc _ hb2).mono ?_; rintro e W1 ⟨A3, c3, rfl, hl3, hC3, hb1⟩; have hbw := below_step hb2 hb1; have B31 := blk_below B3 hb1; have B41 := blk_below B4 hb1; obtain ⟨x0, x1, x2, x3, x4, x5, x6⟩ := box3s B31; obtain ⟨y0, y1, y2, y3, y4, y5, y6⟩ := box3s B41)
        | (go_at_call 35; refine (h35 _ A3 c3 (Kd.C_below hC3 (below_one _)) hl3 (hbw.alloc hbw.size _)).mono ?_; rintro e W2 ⟨rfl, hb3⟩))
      have hbf := below_step (hbw.alloc hbw.size (.cells #[.bool x.f0, .string x.f1, .slice A3 x.f2.length c3] 25)) hb3
      refine bodyPost_ret (results_tmp2 rfl _ _ _) rfl ⟨grown_of_below hbf _, ?_⟩
      exact ⟨RA, s.length, rc, rfl⟩
  | none =>
    have hfc := fun W (hw : Below w.heap.size w W) => find_at RA rc s pn false ⟨#[]⟩ [] false W (Kd.C_below hsC hw) hsl (by simp [types_find.f, hf])
    simp only [List.length_nil] at hfc
    have h27 := fun W (hw : Below w.heap.size w W) => twin_calls (szT t) t B d W (Nat.le_refl _) ht (Kd.C_below hBw hw) hd
    obtain ⟨inner, vs, hown, hel⟩ := hv
    have HEL := Aside0.mk hel
    have HOWN := Aside0.mk hown
    clear hf hA hB hBw hsC hel hown
    dsimp only
    obtain ⟨i0, hi0, hz0, hz1, hz2⟩ := info_parts info59
    have hbs := hb.size
    go_enter Try.func66, Try.ntmps66
    go_wp2_with (first
      | (go_at_call 100; refine (hfc _ hb2).mono ?_; rintro e W1 ⟨A3, c3, rfl, hl3, hC3, hb1⟩; have hbw := below_step hb2 hb1; have B31 := blk_below B3 hb1; have B41 := blk_below B4 hb1; obtain ⟨x0, x1, x2, x3, x4, x5, x6⟩ := box3s B31; obtain ⟨y0, y1, y2, y3, y4, y5, y6⟩ := box3s B41)
      | fail)
    obtain ⟨W2, hW2⟩ : ∃ W2, W1.alloc (.cells #[.bool false, .string ⟨#[]⟩, .slice A3 0 c3] 25) = W2 := ⟨_, rfl⟩
    have hb12 : Below W1.heap.size W1 W2 := by rw [← hW2]; exact below_one _
    have hbw2 := below_step hbw hb12
    have B32 := blk_below B31 hb12
    have B42 := blk_below B41 hb12
    rw [hW2]
    clear hW2 x0 x1 x2 x3 x4 x5 x6 y0 y1 y2 y3 y4 y5 y6
    obtain ⟨x0, x1, x2, x3, x4, x5, x6⟩ := box3s B32
    obtain ⟨y0, y1, y2, y3, y4, y5, y6⟩ := box3s B42
    go_region_law (first
      | (refine step_append_lies _ rfl _ _ 22 rfl w0.heap.size 59 i0 _ 4 64 Try.underlying22 hi0 hz0 hz1 hz2 rfl (by decide) (.slice RA s.length rc) s.length inner rfl ((own_later HOWN.out hb3).alloc _) ⟨W3.heap.size, 0, none⟩ 1 1 [.string pn, .bool t.f0, .string t.f1, .slice A4 t.f2.length c4] rfl rfl (World.news_of_block (blk_new W3 _)) ?hone (by decide) ?h63 ?hby ?hbase _ rfl ?_; (case hone => simp [Value.oneCell']); (case h63 => unfold maxLen; omega); (case hby => omega); (case hbase => simp; omega); intro g cap w3 hown3 hgr hat hg3)
      | (go_simp; go_at_call 27; refine (h27 _ (below_drew1 hbw2)).mono ?_; rintro e W3 ⟨u, rfl, hW, hc3⟩; obtain ⟨A4, c4, hu4, _⟩ := hW.reads; subst hu4; have hc3' := below_step (below_drew1 (Below.refl _ W2)) hc3; have hb3 := below_step hbw2 hc3'; have hs3 := hb3.size; have hs2 := hbw2.size; obtain ⟨z0, z1, z2, z3, z4, z5, z6⟩ := box3s (blk_below B32 hc3')))
    all_goals (have HR := match_next (pn := pn) (t := t) HOWN.out HEL.out hb hb3 (hW.mono (fun k hk => by simp at hk; omega)) hown3 hgr hat)
    all_goals (clear hW hown3 hgr hat hc3 hc3' hb3 z0 z1 z2 z3 z4 z5 z6 h27 hfc)
    all_goals go_wp2
    all_goals (refine bodyPost_ret (results_tmp2 rfl _ _ _) rfl ⟨HR.1, _, rfl, HR.2.1, HR.2.2⟩)

theorem rd_get2 (l : List S25) (k : Nat) (h : k < l.length) : rd_T25 l (k : Int) = l[k] := (rd_get l k _ (List.getElem?_eq_getElem h)).2
theorem szL_take' (l : List S25) (j : Nat) (h : j < l.length) : szL (l.take (j + 1)) = szL (l.take j) + szT l[j] := by
  induction l generalizing j with
  | nil => simp at h
  | cons a l ih =>
    cases j with
    | zero => simp [szL]
    | succ j =>
      simp only [List.length_cons] at h
      simp only [List.take_succ_cons, szL, List.getElem_cons_succ]
      rw [ih j (by omega)]
      omega
theorem szL_le' (l : List S25) (j : Nat) (h : j < l.length) : szL (l.take j) + szT l[j] ≤ szL l := by
  rw [← szL_take' l j h]
  have : ∀ (l : List S25) (n : Nat), szL (l.take n) ≤ szL l := by
    intro l
    induction l with
    | nil => intro n; simp
    | cons a l ih =>
      intro n
      cases n with
      | zero => simp [szL]
      | succ n => simp only [List.take_succ_cons, szL]; have := ih n; omega
  exact this l (j + 1)
/-- What the statement of match's loop loads. -/
abbrev MatchS (w0 : World) (g : Nat) (u u' : Value) (ap at' : Addr) (x y : S25) (A2 : Option Addr) (c2 : Nat) (B2 : Option Addr) (d2 : Nat) (W : World) : Prop :=
  W.cell? ⟨g, 2, none⟩ = some u ∧ W.cell? ⟨g + 1, 2, none⟩ = some u' ∧
  W.cell? ap = some (.bool x.f0) ∧ W.cell? ⟨ap.block, ap.off + 1, none⟩ = some (.string x.f1) ∧ W.cell? ⟨ap.block, ap.off + 2, none⟩ = some (.slice A2 x.f2.length c2) ∧
  W.cell? at' = some (.bool y.f0) ∧ W.cell? ⟨at'.block, at'.off + 1, none⟩ = some (.string y.f1) ∧ W.cell? ⟨at'.block, at'.off + 2, none⟩ = some (.slice B2 y.f2.length d2) ∧ Below w0.heap.size w0 W
/-- Where match's loop stands. -/
structure MatchAt (w0 w : World) (p t : S25) (A : Option Addr) (c : Nat) (B : Option Addr) (d : Nat) (v : Value) (s : List S59) (kk : Nat) (v' : Value) (s' : List S59) (W : World) : Prop where
  b3 : W.heap[w.heap.size]? = some (.cells #[.bool p.f0, .string p.f1, .slice A p.f2.length c] 25 (0, 0))
  b4 : W.heap[w.heap.size + 1]? = some (.cells #[.bool t.f0, .string t.f1, .slice B t.f2.length d] 25 (0, 0))
  row : RowB W w0.heap.size v' s'
  gr : w.grownBy W v.ownBlock
  own : v'.ownBlock = v.ownBlock ∨ ∃ b, v'.ownBlock = some b ∧ w.heap.size ≤ b
  le : s'.length ≤ s.length + szL (p.f2.take kk)
  rest : mtL p.f2 t.f2 s = mtL (p.f2.drop kk) (t.f2.drop kk) s'

theorem _root_.Go.World.grownBy.trans2 {a b c : World} {u v : Value} (h : a.grownBy b u.ownBlock) (k : b.grownBy c v.ownBlock) (ho : v.ownBlock = u.ownBlock ∨ ∃ g, v.ownBlock = some g ∧ a.heap.size ≤ g) : a.grownBy c u.ownBlock :=
  ⟨k.os.trans h.os, k.tape.trans h.tape, k.output.trans h.output, Nat.le_trans h.size k.size, fun i hi hn => (k.block i (Nat.lt_of_lt_of_le hi h.size) (by
    rcases ho with ho | ⟨g, ho, hg⟩
    · rw [ho]; exact hn
    · rw [ho]; intro e; injection e with e; omega)).trans (h.block i hi hn)⟩
theorem own_trans {m n : Nat} {u v z : Value} (hmn : m ≤ n) (h : v.ownBlock = u.ownBlock ∨ ∃ g, v.ownBlock = some g ∧ m ≤ g) (k : z.ownBlock = v.ownBlock ∨ ∃ g, z.ownBlock = some g ∧ n ≤ g) : z.ownBlock = u.ownBlock ∨ ∃ g, z.ownBlock = some g ∧ m ≤ g := by
  rcases k with k | ⟨g, k, hg⟩
  · rw [k]; exact h
  · exact .inr ⟨g, k, by omega⟩
theorem match_after {w0 wr w1 : World} {g : Nat} {x y : Array Value} {v : Value} {s : List S59} (hb : Below w0.heap.size w0 wr) (b3 : wr.heap[g]? = some (.cells x 25 (0, 0))) (b4 : wr.heap[g + 1]? = some (.cells y 25 (0, 0)))
    (hrow : RowB wr w0.heap.size v s) (hg : wr.grownBy w1 v.ownBlock) : Below w0.heap.size w0 w1 ∧ w1.heap[g]? = some (.cells x 25 (0, 0)) ∧ w1.heap[g + 1]? = some (.cells y 25 (0, 0)) := by
  obtain ⟨_, _, ho, _⟩ := hrow
  have hne : ∀ (k : Nat) (z : Array Value), wr.heap[k]? = some (.cells z 25 (0, 0)) → some k ≠ v.ownBlock := fun k z hz e => by
    obtain ⟨cells, hc⟩ := own_typed ho k e.symm
    rw [hz] at hc
    injection hc with hc
    injection hc with _ hc
    exact absurd hc (by decide)
  exact ⟨hb.grown hg hb.size (fun k hk => own_base ho k hk), (hg.block g (blk_lt b3) (hne g x b3)).trans b3, (hg.block (g + 1) (blk_lt b4) (hne (g + 1) y b4)).trans b4⟩

set_option maxHeartbeats 2000000 in
set_option maxRecDepth 100000 in
theorem match_calls (w0 : World) : ∀ (n : Nat) (p t : S25) (s : List S59) (A : Option Addr) (c : Nat) (B : Option Addr) (d : Nat) (v : Value) (w : World), szT p ≤ n → k25.C w0 A p.f2.length p.f2 → k25.C w0 B t.f2.length t.f2 → p.f2.length ≤ c → t.f2.length ≤ d →
    Below w0.heap.size w0 w → RowB w w0.heap.size v s → s.length + szT p ≤ 1000000 → szT t ≤ 5864062014805 →
    Calls Try.prog 66 #[.agg #[.bool p.f0, .string p.f1, .slice A p.f2.length c], .agg #[.bool t.f0, .string t.f1, .slice B t.f2.length d], v] w (MatchPost w0 w v (mtT p t s))
  | 0, p, _, _, _, _, _, _, _, _, h, _, _, _, _, _, _, _, _ => by have := szT_pos p; omega
  | n + 1, p, t, s, A, c, B, d, v, w, hn, hA, hB, hc, hd, hb, hv, hs, ht => by
    cases hp : p.f0 with
    | true =>
      have h := match_var w0 p t s A c B d v w hp hA hB hc hd hb hv (by omega) ht
      rw [hp] at h
      exact h
    | false =>
      have hmt : mtT p t s = if t.f0 = true ∨ t.f1 ≠ p.f1 ∨ t.f2.length ≠ p.f2.length then none else mtL p.f2 t.f2 s := by
        obtain ⟨pv, pn, pl⟩ := p
        dsimp only at hp
        subst hp
        simp only [mtT]
        rw [if_neg (by simp)]
      have h2 := szT_eq' p
      have h3 := szT_eq' t
      have hlp := szL_len p.f2
      have hlt := szL_len t.f2
      obtain ⟨RA, rc, rfl⟩ := hv.slice
      have hb2 := below_two (w := w) (.cells #[.bool false, .string p.f1, .slice A p.f2.length c] 25) (.cells #[.bool t.f0, .string t.f1, .slice B t.f2.length d] 25)
      have B3 := blk_mid (w := w) (.cells #[.bool false, .string p.f1, .slice A p.f2.length c] 25) (.cells #[.bool t.f0, .string t.f1, .slice B t.f2.length d] 25)
      have B4 := blk_top (w := w) (.cells #[.bool false, .string p.f1, .slice A p.f2.length c] 25) (.cells #[.bool t.f0, .string t.f1, .slice B t.f2.length d] 25)
      rw [hmt]
      by_cases h0 : t.f0 = true ∨ t.f1 ≠ p.f1 ∨ t.f2.length ≠ p.f2.length
      · rw [if_pos h0]
        have HV := Aside0.mk hv
        clear hv hmt hA hB hb hs ht hn hp
        have hend : ∀ W', Below w.heap.size w W' → MatchPost w0 w (.slice RA s.length rc) none (.returned (.tuple #[.slice none 0 0, .bool false])) W' := fun W' h => ⟨grown_of_below h _, none, 0, 0, rfl⟩
        obtain ⟨tv, tn, tl⟩ := t
        obtain ⟨pv, pn, pl⟩ := p
        dsimp only at *
        cases tv with
        | true =>
          clear h0
          go_enter Try.func66, Try.ntmps66
          go_wp2
          refine bodyPost_ret (results_tmp2 rfl _ _ _) rfl ?_
          exact hend _ hb2
        | false =>
          by_cases hne : tn = pn
          · subst hne
            have hll : ¬ tl.length = pl.length := by
              rcases h0 with h0 | h0 | h0
              · simp at h0
              · exact absurd rfl h0
              · exact h0
            have e1 : ((tl.length : Int) != (pl.length : Int)) = true := bne_iff_ne.mpr (by omega)
            have e2 : ((tl.length : Int) == (pl.length : Int)) = false := beq_eq_false_iff_ne.mpr (by omega)
            have e3 : (tl.length == pl.length) = false := beq_eq_false_iff_ne.mpr hll
            have e4 : decide (tl.length = pl.length) = false := decide_eq_false hll
            clear h0 hll
            go_enter Try.func66, Try.ntmps66
            go_wp2
            refine bodyPost_ret (results_tmp2 rfl _ _ _) rfl ?_
            exact hend _ hb2
          · have hnl : ¬ tn.toList = pn.toList := fun h => hne (by
              rw [Go.ByteArray.toList_eq, Go.ByteArray.toList_eq] at h
              cases tn; cases pn
              simp only at h
              congr 1
              exact Array.toList_inj.1 h)
            have e1 : (tn.toList == pn.toList) = false := beq_eq_false_iff_ne.mpr hnl
            have e2 : (tn.toList != pn.toList) = true := bne_iff_ne.mpr hnl
            have e3 : decide (tn.toList = pn.toList) = false := decide_eq_false hnl
            clear h0 hne hnl
            go_enter Try.func66, Try.ntmps66
            go_wp2
            refine bodyPost_ret (results_tmp2 rfl _ _ _) rfl ?_
            exact hend _ hb2
      · rw [if_neg h0]
        have ih := fun (kk : Nat) (h1 : kk < p.f2.length) (h2' : kk < t.f2.length) s' A' c' B' d' v' W => match_calls w0 n p.f2[kk] t.f2[kk] s' A' c' B' d' v' W (by
          have := szL_mem p.f2 _ (List.getElem_mem h1)
          omega)
        have IH := Aside0.mk ih
        obtain ⟨tv, tn, tl⟩ := t
        obtain ⟨pv, pn, pl⟩ := p
        dsimp only at *
        have htv : tv = false := by cases tv <;> simp_all
        have htn : tn = pn := by
          by_cases h : tn = pn
          · exact h
          · exact absurd (.inr (.inl h)) h0
        have hll : tl.length = pl.length := by
          by_cases h : tl.length = pl.length
          · exact h
          · exact absurd (.inr (.inr h)) h0
        subst htv htn
        have HA := Aside0.mk hA
        have HB := Aside0.mk hB
        have HC := Aside0.mk hc
        have HD := Aside0.mk hd
        have HBW := Aside0.mk hb
        have HSZ := Aside0.mk hs
        have HT := Aside0.mk ht
        have HLL := Lib.hid hll
        have HV0 := Aside0.mk hv
        have hS0 : MatchAt w0 w ⟨false, tn, pl⟩ ⟨false, tn, tl⟩ A c B d (.slice RA s.length rc) s 0 (.slice RA s.length rc) s ((w.alloc (.cells #[.bool false, .string tn, .slice A pl.length c] 25)).alloc (.cells #[.bool false, .string tn, .slice B tl.length d] 25)) :=
          ⟨B3, B4, hv.later hb2, grown_of_below hb2 _, .inl rfl, by simp, by simp⟩
        have e1 : ((tl.length : Int) != (pl.length : Int)) = false := bne_eq_false_iff_eq.mpr (by omega)
        have e2 : ((tl.length : Int) == (pl.length : Int)) = true := beq_iff_eq.mpr (by omega)
        have e3 : (tl.length == pl.length) = true := beq_iff_eq.mpr hll
        have e4 : decide (tl.length = pl.length) = true := decide_eq_true hll
        clear hA hB hc hd hb hs ht ih hmt hn hv B3 B4 hb2 h0 hll
        go_enter Try.func66, Try.ntmps66
        go_wp2_with fail
        clear e1 e2 e3 e4
        obtain ⟨W0, hW0⟩ : ∃ W0, (w.alloc (.cells #[.bool false, .string tn, .slice A pl.length c] 25)).alloc (.cells #[.bool false, .string tn, .slice B tl.length d] 25) = W0 := ⟨_, rfl⟩
        rw [hW0] at hS0 ⊢
        clear hW0
        go_loopg [2, 10, 55] pl.length (fun gg v2 v10 v55 wr => ∃ (kk : Nat) (s' : List S59), kk ≤ pl.length ∧ gg + kk = pl.length ∧ v10 = .bool true ∧ v55 = .int .i64 (kk : Int) ∧ Aside0 (MatchAt w0 w ⟨false, tn, pl⟩ ⟨false, tn, tl⟩ A c B d (.slice RA s.length rc) s kk v2 s' wr))
        case atStart => exact ⟨0, s, by omega, by omega, rfl, rfl, ⟨hS0⟩⟩
        case round =>
          obtain ⟨kk, s', hk1, hk2, rfl, rfl, hT⟩ := hrel
          clear hS0
          obtain ⟨B3, B4, hrow, hgr, hown, hle, hrest⟩ := hT.out
          dsimp only at B3 B4 hle hrest
          by_cases hkk : kk < tl.length
          · have q0 : decide (kk < tl.length) = true := decide_eq_true hkk
            have hkp : kk < pl.length := by have := HLL.out; omega
            obtain ⟨RA', rc', rfl⟩ := hrow.slice
            have hbw : Below w0.heap.size w0 wr := ⟨hgr.os.trans HBW.out.os, hgr.tape.trans HBW.out.tape, hgr.output.trans HBW.out.output, Nat.le_trans HBW.out.size hgr.size, fun k hk => (hgr.block k (Nat.lt_of_lt_of_le hk HBW.out.size) (fun e => by
              obtain ⟨_, _, ho, _⟩ := HV0.out
              have := own_base ho k e.symm
              omega)).trans (HBW.out.block k hk)⟩
            obtain ⟨ap, A2, c2, rfl, p0, p1, p2, hl2, hC2⟩ := at_T25 HA.out (kk : Int) (by omega) (by omega)
            obtain ⟨at', B2, d2, rfl, t0, t1, t2, hm2, hD2⟩ := at_T25 HB.out (kk : Int) (by omega) (by omega)
            simp only [Int.toNat_natCast] at p0 p1 p2 t0 t1 t2
            rw [rd_get2 pl kk hkp] at p0 p1 p2 hl2 hC2
            rw [rd_get2 tl kk hkk] at t0 t1 t2 hm2 hD2
            have hcall := IH.out kk hkp hkk s' A2 c2 B2 d2 (.slice RA' s'.length rc') wr.drew hC2 hD2 hl2 hm2 (below_drew1 hbw) (hrow.later (below_drew1 (Below.refl _ _))) (by
              have h1 := szL_le' pl kk hkp
              have h2 := HSZ.out
              omega) (by
              have h1 := szL_mem tl _ (List.getElem_mem hkk)
              have h2 := HT.out
              omega)
            have hnext : mtL (pl.drop kk) (tl.drop kk) s' = (match mtT pl[kk] tl[kk] s' with | some s2 => mtL (pl.drop (kk + 1)) (tl.drop (kk + 1)) s2 | none => none) := by
              rw [List.drop_eq_getElem_cons hkp, List.drop_eq_getElem_cons hkk, mtL]
            have hle2 : ∀ s2, mtT pl[kk] tl[kk] s' = some s2 → s2.length ≤ s.length + szL (pl.take (kk + 1)) := fun s2 h => by
              have h1 := mtL_len _ _ _ _ h
              have h2 := szL_take' pl kk hkp
              omega
            have hS : ∀ W, Below w0.heap.size w0 W → W.heap[w.heap.size]? = some (.cells #[.bool false, .string tn, .slice (some ap) pl.length c] 25 (0, 0)) → W.heap[w.heap.size + 1]? = some (.cells #[.bool false, .string tn, .slice (some at') tl.length d] 25 (0, 0)) → MatchS w0 w.heap.size (.slice (some ap) pl.length c) (.slice (some at') tl.length d) (ap.add (kk * 3)) (at'.add (kk * 3)) pl[kk] tl[kk] A2 c2 B2 d2 W :=
              fun W h1 h2 h3 => ⟨(box3 h2).2.2.1, (box3 h3).2.2.1, pw_cell_below h1 p0, pw_cell_below h1 p1, pw_cell_below h1 p2, pw_cell_below h1 t0, pw_cell_below h1 t1, pw_cell_below h1 t2, h1⟩
            have haft := fun w1 (hg1 : wr.grownBy w1 (Value.slice RA' s'.length rc').ownBlock) => match_after hbw B3 B4 hrow hg1
            have hS0 := hS _ (below_drew1 hbw) B3 B4
            have HT2 := Aside0.mk hT.out
            clear hT
            generalize pl[kk] = x at *
            generalize tl[kk] = y at *
            have hqp : (Value.bool true) = .bool true := rfl
            clear p0 p1 p2 t0 t1 t2 hqp
            have HB3 := Aside0.mk B3
            have HB4 := Aside0.mk B4
            have HROW := Aside0.mk hrow
            clear hC2 hD2 B3 B4 hrow
            have q1 : decide (kk < pl.length) = true := decide_eq_true hkp
            cases hm : mtT x y s' with
            | none =>
              rw [hm] at hcall hnext
              rw [hrest.trans hnext]
              clear hm hnext hle2 hrest
              go_wp2_with fail
              go_region_held3 (fun W => MatchS w0 w.heap.size (.slice (some ap) pl.length c) (.slice (some at') tl.length d) (ap.add (kk * 3)) (at'.add (kk * 3)) x y A2 c2 B2 d2 W)
                (first | exact hS0 | assumption)
                (first | (go_at_call 66; refine hcall.mono ?_; rintro e w1 ⟨hg0, A9, n9, c9, rfl⟩; have hg1 : wr.grownBy w1 (Value.slice RA' s'.length rc').ownBlock := ⟨hg0.os, hg0.tape, hg0.output, hg0.size, hg0.block⟩; clear hg0; obtain ⟨hbz, b3z, b4z⟩ := haft w1 hg1; have hN := hS w1 hbz b3z b4z))
              have hgf := HT2.out.gr.trans2 hg1 HT2.out.own
              clear hcall hS0 hS haft hN b3z b4z hbz hg1
              go_wp2
              refine bodyPost_ret (results_tmp2 rfl _ _ _) rfl ⟨hgf, none, 0, 0, rfl⟩
            | some s2 =>
              rw [hm] at hcall hnext
              have hl3 := hle2 s2 hm
              have HRS := Lib.hid (hrest.trans hnext)
              clear hle2 hm hrest hnext
              go_wp2_with fail
              go_region_held3 (fun W => MatchS w0 w.heap.size (.slice (some ap) pl.length c) (.slice (some at') tl.length d) (ap.add (kk * 3)) (at'.add (kk * 3)) x y A2 c2 B2 d2 W)
                (first | exact hS0 | assumption)
                (first | (go_at_call 66; refine hcall.mono ?_; rintro e w1 ⟨hg0, v2, rfl, hrow2, hown2⟩; have hg1 : wr.grownBy w1 (Value.slice RA' s'.length rc').ownBlock := ⟨hg0.os, hg0.tape, hg0.output, hg0.size, hg0.block⟩; clear hg0; obtain ⟨hbz, b3z, b4z⟩ := haft w1 hg1; have hN := hS w1 hbz b3z b4z))
              have hA2 : MatchAt w0 w ⟨false, tn, pl⟩ ⟨false, tn, tl⟩ (some ap) c (some at') d (.slice RA s.length rc) s (kk + 1) v2 s2 w1 := ⟨b3z, b4z, hrow2, HT2.out.gr.trans2 hg1 HT2.out.own, own_trans HT2.out.gr.size HT2.out.own hown2, hl3, HRS.out⟩
              clear hcall hS0 hS haft hN b3z b4z hbz hg1 hrow2 hown2 hl3
              go_wp2
              go_roundg (pl.length - kk - 1)
              case measure => omega
              case rel =>
                have hkb : kk < 1000000 := by have := HSZ.out; omega
                exact ⟨kk + 1, s2, by omega, by omega, rfl, by simp <;> (unfold wrap64; omega), ⟨hA2⟩⟩
          · have q0 : decide (kk < tl.length) = false := decide_eq_false hkk
            have hlk : tl.length ≤ kk ∧ pl.length ≤ kk := by have := HLL.out; omega
            have hrest2 : mtL pl tl s = some s' := by
              rw [hrest, List.drop_of_length_le hlk.2, List.drop_of_length_le hlk.1]
              simp only [mtL]
            clear hkk hT hrest
            have HR := Aside0.mk hrow
            clear hrow
            go_wp2
            refine bodyPost_ret (results_tmp2 rfl _ _ _) rfl ⟨hgr, ?_⟩
            rw [hrest2]
            exact ⟨_, rfl, HR.out, hown⟩
end Go.Proofs.Ytgnklkmifcmlhaa.Q
