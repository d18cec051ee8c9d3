/- Proved here: the contract of types.grown. Conditions: those that each theorem names. -/
import Derived.Test.YtgnklkmifcmlhaaHNodes
import Derived.Test.YtgnklkmifcmlhaaHFind
import Derived.Test.YtgnklkmifcmlhaaQ10
namespace Go.Proofs.Ytgnklkmifcmlhaa.Q
open Go.RowKit Go.Shelf Go.Proofs.YtgnklkmifcmlhaaW.PrintWords Go.Proofs.YtgnklkmifcmlhaaW.PrintMore
set_option linter.unusedVariables false
set_option linter.unusedSimpArgs false
attribute [local go_sem] Oper.semAt_some

/-! ### grown -/
def growStep (k : Nat) (s : List S59) (n : Int) (x : S25) : Option Int :=
  match s.find? (findP x.f1) with
  | some b => if x.f0 = true then (types_Size.f k b.f1.f0 b.f1.f1 b.f1.f2).bind fun m => some (wrap64 (n + m)) else some (wrap64 (n + 1))
  | none => some (wrap64 (n + 1))
def growO (k : Nat) (s : List S59) : List S25 → Int → Option Int
  | [], n => some n
  | x :: l, n => (growStep k s n x).bind fun m => growO k s l m
theorem growO_snoc (k : Nat) (s : List S59) (x : S25) : ∀ (l : List S25) (n : Int), growO k s (l ++ [x]) n = (growO k s l n).bind fun m => growStep k s m x
  | [], n => by simp [growO]
  | y :: l, n => by
    simp only [List.cons_append, growO]
    cases growStep k s n y with
    | none => rfl
    | some m => simp [growO_snoc k s x l m]
theorem growO_some (k : Nat) (s : List S59) : ∀ (l : List S25) (n r : Int), growO k s l n = some r → ∀ x, x ∈ l → ∀ m, (growStep k s m x).isSome = true
  | y :: l, n, r, h, x, hx, m => by
    simp only [growO] at h
    cases hy : growStep k s n y with
    | none => rw [hy] at h; simp at h
    | some q =>
      rw [hy] at h
      rcases List.mem_cons.1 hx with rfl | hx
      · simp only [growStep] at hy ⊢
        split at hy
        · split at hy
          · rename_i hb
            cases hz : types_Size.f k _ _ _ with
            | none => rw [hz] at hy; simp at hy
            | some z => simp [hb, hz]
          · rename_i hb
            simp [hb]
        · rfl
      · exact growO_some k s l q r h x hx m
theorem growStep_le (k : Nat) (s : List S59) (n : Int) (x : S25) : LeO (growStep k s n x) (growStep (k + 1) s n x) := by
  unfold growStep
  split
  · exact LeO.ite (LeO.bind (types_Size.mono _ _ _ _) (fun _ => LeO.refl _)) (LeO.refl _)
  · exact LeO.refl _
theorem growO_le (k : Nat) (s : List S59) : ∀ (l : List S25) (n : Int), LeO (growO k s l n) (growO (k + 1) s l n)
  | [], n => LeO.refl _
  | x :: l, n => by
    unfold growO
    exact LeO.bind (growStep_le k s n x) (fun m => growO_le k s l m)

def types_grown.f (k : Nat) (l0 : List S59) (a1_0 : Bool) (a1_1 : ByteArray) (l1_2 : List (S25)) : Option Int := growO k l0 (preT ⟨a1_0, a1_1, l1_2⟩) 0
theorem types_grown.mono : ∀ a0 a1 a2 a3 k, LeO (types_grown.f k a0 a1 a2 a3) (types_grown.f (k + 1) a0 a1 a2 a3) := fun a0 a1 a2 a3 k => growO_le k a0 _ 0

def GrownI (w : World) (k : Nat) (s : List S59) (A : Option Addr) (c : Nat) (ys : List S25) (W : World) : Prop :=
  (∃ v, growO k s ys 0 = some v ∧ W.heap[w.heap.size + 2]? = some (.cells #[.int .i64 v] 3 (0, 0))) ∧ W.heap[w.heap.size]? = some (.cells #[.slice A s.length c] 22 (0, 0)) ∧ Below w.heap.size w W
theorem GrownI.own {w : World} {k : Nat} {s : List S59} {A : Option Addr} {c B : Nat} (hB : w.heap.size ≤ B) : OwnFrom B (GrownI w k s A c) := by
  intro ys X Y row hs hg hr
  obtain ⟨⟨v, h1, h2⟩, h3, h4⟩ := hs
  exact ⟨⟨v, h1, cells_own (β := Unit) _ _ _ B () X Y row h2 hg hr⟩, cells_own (β := Unit) _ _ _ B () X Y row h3 hg hr, ownFrom_below (β := Unit) (Nat.le_refl _) hB () X Y row h4 hg hr⟩
theorem GrownI.alloc {w W : World} {k : Nat} {s : List S59} {A : Option Addr} {c : Nat} {ys : List S25} (h : GrownI w k s A c ys W) (o : Obj) : GrownI w k s A c ys (W.alloc o) :=
  ⟨by obtain ⟨v, h1, h2⟩ := h.1; exact ⟨v, h1, blk_alloc h2 _⟩, blk_alloc h.2.1 _, h.2.2.alloc h.2.2.size _⟩

set_option maxHeartbeats 2000000 in
set_option maxRecDepth 100000 in
theorem grown_calls (k : Nat) (A : Option Addr) (c : Nat) (s : List S59) (t : S25) (B : Option Addr) (d : Nat) (r : Int) (w : World)
    (hs : k59.C w A s.length s) (hc : s.length ≤ c) (hB : k25.C w B t.f2.length t.f2) (hd2 : t.f2.length ≤ d) (h : growO k s (preT t) 0 = some r) :
    Calls Try.prog 58 #[.slice A s.length c, .agg #[.bool t.f0, .string t.f1, .slice B t.f2.length d]] w fun e w' => e = .returned (.int .i64 r) ∧ Below w.heap.size w w' := by
  refine (callsIn_wide (n := 6)).1 ?_
  refine callsIn_of_wp_marks Try.func58 rfl trivial ?_ rfl
  simp only [Try.ntmps58, List.size_toArray, List.length_cons, List.length_nil, Nat.reduceAdd, Nat.reduceSub, Array.replicate_succ, Array.replicate_zero, List.push_toArray, List.append_toArray, List.nil_append, List.cons_append]
  gi_wp2_with (refine ⟨trivial, ?_⟩; gi_at_call 68; refine (nodes_in Fence.wide _ trivial rfl _ _ _ _).mono ?_; rintro e w' ⟨rfl, rfl⟩)
  have hb4 : Below w.heap.size w ((((w.alloc (.cells #[.slice A s.length c] 22)).alloc (.cells #[.bool t.f0, .string t.f1, .slice B t.f2.length d] 25)).alloc (.cells #[.int .i64 0] 3)).alloc (.cells #[.bool t.f0, .string t.f1, .slice B t.f2.length d] 25)) :=
    ((below_two _ _).alloc (by simp; omega) _).alloc (by simp; omega) _
  have e0 := blk_alloc (blk_alloc (blk_mid (w := w) (.cells #[.slice A s.length c] 22) (.cells #[.bool t.f0, .string t.f1, .slice B t.f2.length d] 25)) (.cells #[.int .i64 0] 3)) (.cells #[.bool t.f0, .string t.f1, .slice B t.f2.length d] 25)
  have e2 := blk_alloc (blk_new ((w.alloc (.cells #[.slice A s.length c] 22)).alloc (.cells #[.bool t.f0, .string t.f1, .slice B t.f2.length d] 25)) (.cells #[.int .i64 0] 3)) (.cells #[.bool t.f0, .string t.f1, .slice B t.f2.length d] 25)
  have e3 := blk_new (((w.alloc (.cells #[.slice A s.length c] 22)).alloc (.cells #[.bool t.f0, .string t.f1, .slice B t.f2.length d] 25)).alloc (.cells #[.int .i64 0] 3)) (.cells #[.bool t.f0, .string t.f1, .slice B t.f2.length d] 25)
  simp only [World.size_alloc] at e2 e3
  have hsz : ((((w.alloc (.cells #[.slice A s.length c] 22)).alloc (.cells #[.bool t.f0, .string t.f1, .slice B t.f2.length d] 25)).alloc (.cells #[.int .i64 0] 3)).alloc (.cells #[.bool t.f0, .string t.f1, .slice B t.f2.length d] 25)).heap.size = w.heap.size + 4 := by simp
  obtain ⟨W0, hW0⟩ : ∃ W0, (((w.alloc (.cells #[.slice A s.length c] 22)).alloc (.cells #[.bool t.f0, .string t.f1, .slice B t.f2.length d] 25)).alloc (.cells #[.int .i64 0] 3)).alloc (.cells #[.bool t.f0, .string t.f1, .slice B t.f2.length d] 25) = W0 := ⟨_, rfl⟩
  rw [hW0] at hb4 e0 e2 e3 hsz ⊢
  clear hW0
  refine wpIn_rangeFunc_ownH rfl (by omega) (gf := 106) (lb := #[.pointer (some ⟨w.heap.size + 1 + 1 + 1, 0, none⟩)]) rfl trivial (enters_of Try.func106 (by kernel_rfl) rfl)
    (nodes_stops Fence.wide rfl _ trivial trivial rfl (w.heap.size + 1 + 1 + 1) t B d w W0 hb4 (fun x => ∀ m, (growStep k s m x).isSome = true) (growO_some k s (preT t) 0 r h) e3 hd2 hB) (fun h k => h.trans k)
    (fun W l o o' hl ho h1 h2 => ⟨?kb1, ?kb2⟩) (Below.refl _ _) (fun _ => rfl)
    (fun pre W => GrownI w k s A c (treeN pre) W) (fun _ _ _ => False)
    (fun pre X Y row hs hg hr => GrownI.own (by omega) (treeN pre) X Y row hs hg hr) (fun _ _ _ _ _ hs _ _ => hs)
    ⟨⟨0, rfl, e2⟩, e0, hb4⟩
    (fun x a' W => ∃ Bx, w.heap.size + 2 < Bx ∧ W.heap[Bx]? = some (.cells #[.bool x.1.1.f0, .string x.1.1.f1, .slice x.1.2.1 x.1.1.f2.length x.1.2.2] 25 (0, 0)) ∧ a' = { tmps := #[.slice A s.length c, .agg #[.bool t.f0, .string t.f1, .slice B t.f2.length d], .pointer (some ⟨w.heap.size, 0, none⟩), .pointer (some ⟨w.heap.size + 1, 0, none⟩), .int .i64 0, .pointer (some ⟨w.heap.size + 1 + 1, 0, none⟩), .pointer (some ⟨Bx, 0, none⟩), undef, undef, .agg #[.bool t.f0, .string t.f1, .slice B t.f2.length d], .func (.func 106) #[] #[.pointer (some ⟨w.heap.size + 1 + 1 + 1, 0, none⟩)], .agg #[.bool x.1.1.f0, .string x.1.1.f1, .slice x.1.2.1 x.1.1.f2.length x.1.2.2], undef, undef, undef, undef, undef, undef, undef, undef, undef, undef, undef, undef, undef, undef, undef, undef, undef, undef, undef], defers := [] })
    (fun x a' _ X Y row hs hg hr => by obtain ⟨Bx, h1, h2, h3⟩ := hs; exact ⟨Bx, h1, cells_own (β := Unit) _ _ _ _ () X Y row h2 hg hr, h3⟩)
    ?assign ?body ?done ?stop
  case kb1 => exact belowK_b (w := W0) hb4.size W l o o' hl ho h1 h2
  case kb2 =>
    intro b cs u _ hb
    exact (World.putObj_heap_other (by rintro rfl; rw [ho] at hb; cases hb; cases h1)).trans hb
  case assign =>
    rintro l pre x W K hi hK
    gi_wp2
    exact hK _ _ (keepsFrom_below (below_one _)) (KpN.of_below hi.2.2.size (below_one _)) (hi.alloc _) ⟨W.heap.size, by obtain ⟨v, _, h2⟩ := hi.1; exact blk_lt h2, blk_new _ _, rfl⟩
  case body =>
    rintro l pre x a' W hl ⟨rr, hrr⟩ hi ⟨Bx, hBx, bX, rfl⟩ hlt
    obtain ⟨⟨v, hv, hbn⟩, hbs, hbw⟩ := hi
    obtain ⟨Q, hQ, hpost⟩ : ∃ Q, (∀ a' W', KeepsFrom W0.heap.size W W' ∧ KpN w.heap.size W W' ∧ GrownI w k s A c (treeN pre ++ [x.1.1]) W' → Q Exit.normal a' W') ∧ ownPostG W0.heap.size (KpN w.heap.size) (fun pre W => GrownI w k s A c (treeN pre) W) (fun _ _ _ => False) (pre ++ [x]) W = Q :=
      ⟨_, fun a' W' h => ⟨h.1, h.2.1, by show GrownI w k s A c (treeN (pre ++ [x])) W'; rw [show treeN (pre ++ [x]) = treeN pre ++ [x.1.1] by simp]; exact h.2.2⟩, rfl⟩
    rw [hpost]
    have HQ := Aside0.mk hQ
    clear hpost hQ
    obtain ⟨⟨x, X, cx⟩, ⟨hxc, hxC⟩, hxP⟩ := x
    dsimp only at HQ bX hxc hxC hxP ⊢
    have hS := hxP v
    obtain ⟨m, hm⟩ := Option.isSome_iff_exists.1 hS
    have hnew : growO k s (treeN pre ++ [x]) 0 = some m := by rw [growO_snoc, hv]; exact hm
    have HNEW := Aside0.mk hnew
    have hBs : k59.C W A s.length s := Kd.C_below hs hbw
    obtain ⟨cx0, cx1, cx2, _, _, _⟩ := box3 bX
    obtain ⟨cn, fn0⟩ := box1 hbn
    obtain ⟨cs, _⟩ := box1 hbs
    have ln := blk_lt hbn
    have lx := blk_lt bX
    have ls := blk_lt hbs
    have HBW := Aside0.mk hbw
    have HBN := Aside0.mk hbn
    have HBS := Aside0.mk hbs
    have HBX := Aside0.mk bX
    have HPRE := Aside0.mk hv
    have hfin : ∀ (W3 : World), Below W.heap.size W W3 → ∀ q, growO k s (treeN pre ++ [x]) 0 = some q → KeepsFrom W0.heap.size W (W3.setCell ⟨w.heap.size + 2, 0, none⟩ (.int .i64 q)) ∧ KpN w.heap.size W (W3.setCell ⟨w.heap.size + 2, 0, none⟩ (.int .i64 q)) ∧ GrownI w k s A c (treeN pre ++ [x]) (W3.setCell ⟨w.heap.size + 2, 0, none⟩ (.int .i64 q)) := fun W3 h3 q hq =>
      ⟨(keepsFrom_below h3).trans (keepsFrom_set _ _ _), (KpN.of_below HBW.out.size h3).set (by omega) (blk_below HBN.out h3) (by decide) (by decide) 0 _, ⟨q, hq, blk_put (blk_below HBN.out h3) 0 _ rfl⟩, blk_far (blk_below HBS.out h3) (by simp) _, (below_step HBW.out h3).setCell (by simp) _⟩
    have hfin2 : ∀ (W3 : World), Below W.heap.size W W3 → ∀ q o, growO k s (treeN pre ++ [x]) 0 = some q → KeepsFrom W0.heap.size W ((W3.setCell ⟨w.heap.size + 2, 0, none⟩ (.int .i64 q)).alloc o) ∧ KpN w.heap.size W ((W3.setCell ⟨w.heap.size + 2, 0, none⟩ (.int .i64 q)).alloc o) ∧ GrownI w k s A c (treeN pre ++ [x]) ((W3.setCell ⟨w.heap.size + 2, 0, none⟩ (.int .i64 q)).alloc o) := fun W3 h3 q o hq =>
      ⟨(hfin W3 h3 q hq).1.trans (keepsFrom_below (below_one _)), (hfin W3 h3 q hq).2.1.alloc HBW.out.size _, (hfin W3 h3 q hq).2.2.alloc _⟩
    have HFIN := Aside0.mk hfin
    have HFIN2 := Aside0.mk hfin2
    clear hbw hbn hbs bX hs hxP hS hv hnew hfin hfin2
    simp only [growStep] at hm
    cases hf : s.find? (findP x.f1) with
    | none =>
      rw [hf] at hm
      simp only [Option.some.injEq] at hm
      have hfc := find_at A c s x.f1 false ⟨#[]⟩ [] false W hBs hc (by simp [types_find.f, hf])
      clear hf hBs
      have HM := Lib.hid hm
      clear hm
      cases hx0 : x.f0 <;> rw [hx0] at cx0
      all_goals
        clear hx0
        gi_wp2_with (refine ⟨trivial, ?_⟩; gi_at_call 100; refine (CallsIn.inRound l (callsIn_wide.2 hfc)).mono ?_; rintro e W1 ⟨A3, c3, rfl, hl3, hC3, hb1⟩; replace cx0 := pw_cell_below hb1 cx0; replace cx1 := pw_cell_below hb1 cx1; replace cx2 := pw_cell_below hb1 cx2; replace cn := pw_cell_below hb1 cn; have fn1 := (box1 (blk_below HBN.out hb1)).2; have lx1 := Nat.lt_of_lt_of_le lx hb1.size; have ln1 := Nat.lt_of_lt_of_le ln hb1.size)
        exact HQ.out _ _ (HFIN2.out W1 hb1 _ _ (by rw [HNEW.out, ← HM.out]))
    | some b =>
      rw [hf] at hm
      have hfc := find_at A c s x.f1 b.f1.f0 b.f1.f1 b.f1.f2 true W hBs hc (by simp [types_find.f, hf])
      clear hf hBs
      cases hx0 : x.f0 with
      | false =>
        rw [hx0] at cx0 hm
        simp only [Bool.false_eq_true, if_false, Option.some.injEq] at hm
        have HM := Lib.hid hm
        clear hx0 hm
        generalize b.f1.f0 = r1 at *
        generalize b.f1.f1 = r2 at *
        generalize b.f1.f2 = r3 at *
        gi_wp2_with (refine ⟨trivial, ?_⟩; gi_at_call 100; refine (CallsIn.inRound l (callsIn_wide.2 hfc)).mono ?_; rintro e W1 ⟨A3, c3, rfl, hl3, hC3, hb1⟩; replace cx0 := pw_cell_below hb1 cx0; replace cx1 := pw_cell_below hb1 cx1; replace cx2 := pw_cell_below hb1 cx2; replace cn := pw_cell_below hb1 cn; have fn1 := (box1 (blk_below HBN.out hb1)).2; have lx1 := Nat.lt_of_lt_of_le lx hb1.size; have ln1 := Nat.lt_of_lt_of_le ln hb1.size)
        exact HQ.out _ _ (HFIN2.out W1 hb1 _ _ (by rw [HNEW.out, ← HM.out]))
      | true =>
        rw [hx0] at cx0 hm
        simp only [if_true] at hm
        cases hz : types_Size.f k b.f1.f0 b.f1.f1 b.f1.f2 with
        | none => rw [hz] at hm; simp at hm
        | some z =>
          rw [hz] at hm
          simp only [Option.bind_some, Option.some.injEq] at hm
          have HM := Lib.hid hm
          have HZ := Lib.hid hz
          clear hx0 hm hz
          generalize b.f1.f0 = r1 at *
          generalize b.f1.f1 = r2 at *
          generalize b.f1.f2 = r3 at *
          gi_wp2_with (refine ⟨trivial, ?_⟩; gi_at_call 100; refine (CallsIn.inRound l (callsIn_wide.2 hfc)).mono ?_; rintro e W1 ⟨A3, c3, rfl, hl3, hC3, hb1⟩; replace cx0 := pw_cell_below hb1 cx0; replace cx1 := pw_cell_below hb1 cx1; replace cx2 := pw_cell_below hb1 cx2; replace cn := pw_cell_below hb1 cn; have fn1 := (box1 (blk_below HBN.out hb1)).2; have lx1 := Nat.lt_of_lt_of_le lx hb1.size; have ln1 := Nat.lt_of_lt_of_le ln hb1.size)
          have hsz2 := fun W2 (hw : Below W1.heap.size W1 W2) => types_Size.calls k r1 r2 A3 c3 r3 z W2 (Kd.C_below hC3 hw) hl3 HZ.out
          have hmx : Try.prog.follows .mixedOrders = true := by kernel_rfl
          gi_region_with_o ((try refine ⟨trivial, ?_⟩); gi_at_call 30; refine (CallsIn.inRound l (callsIn_wide.2 (hsz2 _ (by first | exact below_one _ | exact below_drew1 (below_one _))))).mono ?_; rintro e W2 ⟨rfl, hb2⟩; have hb2' : Below W1.heap.size W1 W2 := below_step (by first | exact below_one _ | exact below_drew1 (below_one _)) hb2; have cn2 := pw_cell_below hb2' cn; have fn2 := (box1 (blk_below (blk_below HBN.out hb1) hb2')).2)
          all_goals gi_wp2
          all_goals (try go_bits)
          all_goals exact HQ.out _ _ (HFIN.out W2 (below_step hb1 hb2') _ (by rw [HNEW.out, ← HM.out]))
  case done =>
    rintro D ys W hD hS hi hK
    obtain ⟨⟨v, hv, hbn⟩, hbs, hbw⟩ := hi
    obtain ⟨cn, _⟩ := box1 hbn
    rw [show treeN ys = preT t from hS, h] at hv
    obtain rfl := Option.some.inj hv
    gi_wp2
    refine ⟨by simp, .inl ⟨_, _, rfl, run_takeDeferred hK, ?_⟩⟩
    exact ⟨_, results_tmp rfl _ _ _, rfl, hbw.trans (belowK_b (w := w) (Nat.le_refl _) W D _ _ (by omega) hK rfl rfl)⟩
  case stop =>
    rintro D c pre W _ _ h _
    exact h.elim

theorem types_grown.calls (k : Nat) (A0 : Option Addr) (c0 : Nat) (l0 : List (S59)) (a1_0 : Bool) (a1_1 : ByteArray) (A1_2 : Option Addr) (c1_2 : Nat) (l1_2 : List (S25)) (r : Int) (w : World) (hr0 : Kd.C k59 w A0 l0.length l0) (hc0 : l0.length ≤ c0) (hr1_2 : Kd.C k25 w A1_2 l1_2.length l1_2) (hc1_2 : l1_2.length ≤ c1_2) (h : types_grown.f k l0 a1_0 a1_1 l1_2 = some r) :
    Calls Try.prog 58 #[.slice A0 l0.length c0, .agg #[.bool a1_0, .string a1_1, .slice A1_2 l1_2.length c1_2]] w fun e w' => e = .returned (.int .i64 r) ∧ Below w.heap.size w w' :=
  grown_calls k A0 c0 l0 ⟨a1_0, a1_1, l1_2⟩ A1_2 c1_2 r w hr0 hc0 hr1_2 hc1_2 h
end Go.Proofs.Ytgnklkmifcmlhaa.Q
