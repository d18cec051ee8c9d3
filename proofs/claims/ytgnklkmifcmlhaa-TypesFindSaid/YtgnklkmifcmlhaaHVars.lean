/- Proved here: the contract of types.Vars. Conditions: those that each theorem names. -/
import Derived.Test.YtgnklkmifcmlhaaHNodes
import Derived.Test.YtgnklkmifcmlhaaQ9
import Derived.Test.YtgnklkmifcmlhaaQ39
import Derived.Maps.AppendAt
namespace Go.Proofs.Ytgnklkmifcmlhaa.Q
open Go.RowKit Go.Shelf Go.Proofs.YtgnklkmifcmlhaaW.PrintWords Go.Proofs.YtgnklkmifcmlhaaW.PrintMore
set_option linter.unusedVariables false
set_option linter.unusedSimpArgs false
attribute [local go_sem] Oper.semAt_some

/-! ### Vars -/
theorem info_str : (Try.prog.info? 9).map (fun i => (i.zero, i.size, i.bytes)) = some (some (.string ⟨#[]⟩), 1, 16) := by kernel_rfl
def inS (l : List ByteArray) (a : ByteArray) : Bool := l.any (fun s => a.toList == s.toList)
theorem index_l0 (l : List ByteArray) (a : ByteArray) (hl : l.length ≤ 4611686018427387904) : ∀ (d i : Nat), i + d = l.length → ∃ r : Int, slices_Index_string_string.l0 (d + 1) l a (l.length : Int) (i : Int) = some r ∧ decide (0 ≤ r) = (l.drop i).any (fun s => a.toList == s.toList)
  | 0, i, h => by
    refine ⟨-1, ?_, ?_⟩
    · rw [slices_Index_string_string.l0, if_neg (by omega)]
    · rw [List.drop_of_length_le (by omega)]; rfl
  | d + 1, i, h => by
    have hi : i < l.length := by omega
    have hd := drop_rd l ByteArray.empty i hi
    by_cases he : a.toList = (rdOf ByteArray.empty l (i : Int)).toList
    · refine ⟨i, ?_, ?_⟩
      · rw [slices_Index_string_string.l0, if_pos (by omega), if_pos (by omega), if_pos (by omega), if_pos he]
      · rw [hd, List.any_cons, show l.getD i ByteArray.empty = rdOf ByteArray.empty l (i : Int) from rfl]
        simp [he]
    · obtain ⟨r, hr, hq⟩ := index_l0 l a hl d (i + 1) (by omega)
      refine ⟨r, ?_, ?_⟩
      · rw [slices_Index_string_string.l0, if_pos (by omega), if_pos (by omega), if_pos (by omega), if_neg he, show wrap64 ((i : Int) + 1) = ((i + 1 : Nat) : Int) by unfold wrap64; omega]
        exact hr
      · rw [hq, hd, List.any_cons, show l.getD i ByteArray.empty = rdOf ByteArray.empty l (i : Int) from rfl]
        simp [he]
theorem contains_f (l : List ByteArray) (a : ByteArray) (hl : l.length ≤ 4611686018427387904) : slices_Contains_string_string.f (l.length + 1) l a = some (inS l a) := by
  obtain ⟨r, hr, hq⟩ := index_l0 l a hl l.length 0 (by omega)
  rw [slices_Contains_string_string.f, slices_Index_string_string.f]
  rw [show ((0 : Nat) : Int) = 0 from rfl] at hr
  rw [hr]
  simp only [Option.bind_some, Option.some.injEq]
  rw [List.drop_zero] at hq
  exact hq

def varStep (out : List ByteArray) (x : S25) : List ByteArray := if x.f0 = true then (if inS out x.f1 = true then out else out ++ [x.f1]) else out
def varsL (l : List S25) (out : List ByteArray) : List ByteArray := l.foldl varStep out
theorem varsL_len : ∀ (l : List S25) (out : List ByteArray), (varsL l out).length ≤ out.length + l.length
  | [], out => by simp [varsL]
  | x :: l, out => by
    have h := varsL_len l (varStep out x)
    have h2 : (varStep out x).length ≤ out.length + 1 := by unfold varStep; split <;> (try split) <;> simp
    simp only [varsL, List.foldl_cons, List.length_cons] at h ⊢
    omega

def VarsI (w : World) (ys : List S25) (W : World) : Prop :=
  (∃ v, W.heap[w.heap.size + 1]? = some (.cells #[v] 43 (0, 0)) ∧ W.ownsRow w.heap.size 9 1 v (varsL ys []).length ((varsL ys []).map Value.string)) ∧ Below w.heap.size w W
theorem VarsI.own {w : World} {B : Nat} (hB : w.heap.size ≤ B) : OwnFrom B (VarsI w) := by
  intro ys X Y row hs hg hr
  obtain ⟨⟨v, h1, h2⟩, h4⟩ := hs
  refine ⟨⟨v, cells_own (β := Unit) _ _ _ B () X Y row h1 hg hr, h2.kept hg ?_⟩, ownFrom_below (β := Unit) (Nat.le_refl _) hB () X Y row h4 hg hr⟩
  rcases h2.2 with ⟨rfl, _⟩ | ⟨g, cap, cur, rfl, _, hgb, _⟩
  · exact .inl rfl
  · refine .inr fun e' => ?_
    have e2 : some g = row := by simpa [Value.ownBlock] using e'
    obtain ⟨_, o, ho, hc⟩ := hr g e2.symm
    rw [hgb] at ho
    cases ho
    cases hc
theorem VarsI.alloc {w W : World} {ys : List S25} (h : VarsI w ys W) (o : Obj) : VarsI w ys (W.alloc o) :=
  ⟨by obtain ⟨v, h1, h2⟩ := h.1; exact ⟨v, blk_alloc h1 _, h2.alloc _⟩, h.2.alloc h.2.size _⟩
theorem KpN.appended {n₀ base e size : Nat} {W w1 : World} {o : Obj} {v : Value} {m : Nat} {xs : List Value} (hn : n₀ ≤ W.heap.size) (hb : n₀ ≤ base) (hrow : W.ownsRow base e size v m xs) (h1 : e ≠ 25) (h2 : e ≠ 27) (hg : (W.alloc o).grownBy w1 v.ownBlock) : KpN n₀ W w1 := by
  refine ⟨((Below.refl n₀ W).alloc hn o).grown hg (by simp; omega) (fun j ej => Nat.le_trans hb (own_base hrow j ej)), fun b cs t ht hbk => ?_⟩
  refine (hg.block b (by have := blk_lt hbk; simp; omega) (fun ej => ?_)).trans (blk_alloc hbk o)
  obtain ⟨cells, hc⟩ := own_typed hrow b ej.symm
  rw [hbk] at hc
  cases hc
  rcases ht with ht | ht
  · exact h1 ht
  · exact h2 ht

theorem blk_kept_row {W w1 : World} {n₀ m e size k b t : Nat} {o : Obj} {v : Value} {xs : List Value} {cs : Array Value} (hb : W.heap[b]? = some (Obj.cells cs t (0, 0))) (hrow : W.ownsRow n₀ e size v k xs) (hne : t ≠ e) (hg : ((W.drewN m).alloc o).grownBy w1 v.ownBlock) : w1.heap[b]? = some (Obj.cells cs t (0, 0)) := by
  refine (hg.block b (by have := blk_lt hb; simp; omega) (fun ej => ?_)).trans (blk_alloc (blk_drewN hb m) o)
  obtain ⟨cells, hc⟩ := own_typed hrow b ej.symm
  rw [hb] at hc
  cases hc
  exact hne rfl

theorem keepsFrom_appended {W w1 : World} {n₀ m e size k B : Nat} {o : Obj} {v : Value} {xs : List Value} (hrow : W.ownsRow n₀ e size v k xs) (hg : ((W.drewN m).alloc o).grownBy w1 v.ownBlock) : KeepsFrom B W w1 := by
  refine ⟨Nat.le_trans (by simp) hg.size, fun j ob _ hk ho => ?_⟩
  refine (hg.block j (by have := blk_lt hk; simp; omega) (fun ej => ?_)).trans (blk_alloc (blk_drewN hk m) o)
  obtain ⟨cells, hc⟩ := own_typed hrow j ej.symm
  rw [hk] at hc
  cases hc
  cases ho
theorem own_set_far {W : World} {n₀ e size k b t : Nat} {v u : Value} {xs : List Value} {cs : Array Value} (hrow : W.ownsRow n₀ e size v k xs) (hb : W.heap[b]? = some (Obj.cells cs t (0, 0))) (hne : t ≠ e) (j : Nat) : (W.setCell ⟨b, j, none⟩ u).ownsRow n₀ e size v k xs :=
  own_move hrow (fun q hq => Below.heap_setCell W ⟨b, j, none⟩ u q (by
    rintro rfl
    obtain ⟨cells, hc⟩ := own_typed hrow _ hq
    rw [hb] at hc
    cases hc
    exact hne rfl))

set_option maxHeartbeats 2000000 in
set_option maxRecDepth 100000 in
theorem vars_calls (kc : Nat) (t : S25) (B : Option Addr) (d : Nat) (w : World) (hB : k25.C w B t.f2.length t.f2) (hd2 : t.f2.length ≤ d) (hck : types_Check.f kc t.f0 t.f1 t.f2 = some 0) (hsz : szT t ≤ 8796093022208) :
    Calls Try.prog 23 #[.agg #[.bool t.f0, .string t.f1, .slice B t.f2.length d]] w fun e w' => ∃ v, e = .returned (.tuple #[v, .int .i64 0]) ∧ w'.ownsRow w.heap.size 9 1 v (varsL (preT t) []).length ((varsL (preT t) []).map Value.string) ∧ Below w.heap.size w w' := by
  have hcc := fun W (hw : Below w.heap.size w W) => types_Check.calls kc t.f0 t.f1 B d t.f2 0 W (Kd.C_below hB hw) hd2 hck
  refine (callsIn_wide (n := 6)).1 ?_
  refine callsIn_of_wp_marks Try.func23 rfl trivial ?_ rfl
  simp only [Try.ntmps23, List.size_toArray, List.length_cons, List.length_nil, Nat.reduceAdd, Nat.reduceSub, Array.replicate_succ, Array.replicate_zero, List.push_toArray, List.append_toArray, List.nil_append, List.cons_append]
  gi_wp2_with (first | (refine ⟨trivial, ?_⟩; gi_at_call 28; refine (callsIn_wide.2 (hcc _ (below_two _ _))).mono ?_; rintro e w1 ⟨rfl, hb1⟩; have hbw := below_step (below_two _ _) hb1; have BT := blk_below (blk_mid (w := w) (.cells #[.bool t.f0, .string t.f1, .slice B t.f2.length d] 25) (.cells #[.slice none 0 0] 43)) hb1; have BO := blk_below (blk_top (w := w) (.cells #[.bool t.f0, .string t.f1, .slice B t.f2.length d] 25) (.cells #[.slice none 0 0] 43)) hb1; obtain ⟨z0, z1, z2, _, _, _⟩ := box3 BT; obtain ⟨y0, y1⟩ := box1 BO) | (refine ⟨trivial, ?_⟩; gi_at_call 68; refine (nodes_in Fence.wide _ trivial rfl _ _ _ _).mono ?_; rintro e w' ⟨rfl, rfl⟩))
  have hb4 := below_step hbw (below_one (.cells #[.bool t.f0, .string t.f1, .slice B t.f2.length d] 25))
  have e1 := blk_alloc BO (.cells #[.bool t.f0, .string t.f1, .slice B t.f2.length d] 25)
  have e3 := blk_new w1 (.cells #[.bool t.f0, .string t.f1, .slice B t.f2.length d] 25)
  have hs1 : w.heap.size + 2 ≤ w1.heap.size := by have := blk_lt BO; omega
  refine wpIn_rangeFunc_ownH rfl (by omega) (gf := 106) (lb := #[.pointer (some ⟨w1.heap.size, 0, none⟩)]) rfl trivial (enters_of Try.func106 (by kernel_rfl) rfl)
    (nodes_stops Fence.wide rfl _ trivial trivial rfl w1.heap.size t B d w _ hb4 (fun _ => True) (fun _ _ => trivial) e3 hd2 hB) (fun h k => h.trans k)
    (fun W l o o' hl ho h1 h2 => ⟨?kb1, ?kb2⟩) (Below.refl _ _) (fun _ => rfl)
    (fun pre W => VarsI w (treeN pre) W) (fun _ _ _ => False)
    (fun pre X Y row hs hg hr => VarsI.own (by simp; omega) (treeN pre) X Y row hs hg hr) (fun _ _ _ _ _ hs _ _ => hs)
    ⟨⟨_, e1, World.ownsRow_nil _ _ _ _⟩, hb4⟩
    (fun x a' W => ∃ Bx, w.heap.size + 1 < Bx ∧ W.heap[Bx]? = some (.cells #[.bool x.1.1.f0, .string x.1.1.f1, .slice x.1.2.1 x.1.1.f2.length x.1.2.2] 25 (0, 0)) ∧ a' = { tmps := #[.agg #[.bool t.f0, .string t.f1, .slice B t.f2.length d], .pointer (some ⟨w.heap.size, 0, none⟩), .pointer (some ⟨w.heap.size + 1, 0, none⟩), .int .i64 0, .pointer (some ⟨Bx, 0, none⟩), .agg #[.bool t.f0, .string t.f1, .slice B t.f2.length d], .int .i64 0, .int .i64 0, .bool false, undef, .agg #[.bool t.f0, .string t.f1, .slice B t.f2.length d], .func (.func 106) #[] #[.pointer (some ⟨w1.heap.size, 0, none⟩)], .agg #[.bool x.1.1.f0, .string x.1.1.f1, .slice x.1.2.1 x.1.1.f2.length x.1.2.2], undef, undef, undef, undef, undef, undef, undef, undef, undef, undef, undef, undef, undef, undef, undef], defers := [] })
    (fun x a' _ X Y row hs hg hr => by obtain ⟨Bx, h1, h2, h3⟩ := hs; exact ⟨Bx, h1, cells_own (β := Unit) _ _ _ _ () X Y row h2 hg hr, h3⟩)
    ?assign ?body ?done ?stop
  case kb1 => exact belowK_b (w := w1.alloc _) hb4.size W l o o' hl ho h1 h2
  case kb2 =>
    intro b cs u _ hb
    exact (World.putObj_heap_other (by rintro rfl; rw [ho] at hb; cases hb; cases h1)).trans hb
  case assign =>
    rintro l pre x W K hi hK
    gi_wp2
    exact hK _ _ (keepsFrom_below (below_one _)) (KpN.of_below hi.2.size (below_one _)) (hi.alloc _) ⟨W.heap.size, by obtain ⟨v, h2, _⟩ := hi.1; exact blk_lt h2, blk_new _ _, rfl⟩
  case body =>
    rintro l pre x a' W hl ⟨rr, hrr⟩ hi ⟨Bx, hBx, bX, rfl⟩ hlt
    obtain ⟨Q, hQ, hpost⟩ : ∃ Q, (∀ a' W', KeepsFrom (w1.alloc (.cells #[.bool t.f0, .string t.f1, .slice B t.f2.length d] 25)).heap.size W W' ∧ KpN w.heap.size W W' ∧ VarsI w (treeN pre ++ [x.1.1]) W' → Q Exit.normal a' W') ∧ ownPostG (w1.alloc (.cells #[.bool t.f0, .string t.f1, .slice B t.f2.length d] 25)).heap.size (KpN w.heap.size) (fun pre W => VarsI w (treeN pre) W) (fun _ _ _ => False) (pre ++ [x]) W = Q :=
      ⟨_, fun a' W' h => ⟨h.1, h.2.1, by show VarsI w (treeN (pre ++ [x])) W'; rw [show treeN (pre ++ [x]) = treeN pre ++ [x.1.1] by simp]; exact h.2.2⟩, rfl⟩
    rw [hpost]
    have HQ := Aside0.mk hQ
    clear hpost hQ
    obtain ⟨⟨x, X, cx⟩, ⟨hxc, hxC⟩, hxP⟩ := x
    dsimp only at HQ bX hxc hxC hxP ⊢
    obtain ⟨⟨v, hbo, hrow⟩, hbw2⟩ := hi
    obtain ⟨cx0, cx1, cx2, _, _, _⟩ := box3 bX
    obtain ⟨co, fo⟩ := box1 hbo
    have lo := blk_lt hbo
    have lx := blk_lt bX
    have hlen := varsL_len (treeN pre) []
    have hpl : (treeN pre).length = pre.length := by simp
    have hvs : varsL (treeN pre ++ [x]) [] = varStep (varsL (treeN pre) []) x := by simp [varsL]
    have hcon := contains_f (varsL (treeN pre) []) x.f1 (by simp only [List.length_nil] at hlen; omega)
    obtain ⟨RA, rc, rfl, hrl, hrC⟩ := Kd.R_reads (Kd.R_of_own (h1 := fun _ => rfl) (e := 9) (ok := fun _ => True) (enc := Value.string) (xs := varsL (treeN pre) []) hrow (fun _ _ => trivial))
    have HBW := Aside0.mk hbw2
    have HBO := Aside0.mk hbo
    have HBX := Aside0.mk bX
    have HROW := Aside0.mk hrow
    have HVS := Lib.hid hvs
    have HLEN := Aside0.mk hlen
    have HRC := Aside0.mk hrC
    clear hbw2 hbo bX hrow hvs hlen hrC hxC hxP hcc hb4 e1 e3 hb1 hbw BT BO
    cases hx0 : x.f0 with
    | false =>
      rw [hx0] at cx0
      have HX0 := Lib.hid hx0
      clear hx0 hcon
      gi_wp2
      refine ⟨trivial, ?_⟩
      gi_wp2
      exact HQ.out _ _ ⟨KeepsFrom.refl _ _, KpN.refl _ _, ⟨_, HBO.out, by rw [HVS.out, varStep, if_neg (by rw [HX0.out]; decide)]; exact HROW.out⟩, HBW.out⟩
    | true =>
      rw [hx0] at cx0
      have HX0 := Lib.hid hx0
      clear hx0
      cases hin : inS (varsL (treeN pre) []) x.f1 with
      | true =>
        rw [hin] at hcon
        have HIN := Lib.hid hin
        have hct := fun m => slices_Contains_string_string.calls _ RA rc _ x.f1 true (W.drewN m) (Kd.C_below HRC.out (pw_below_drewN (Below.refl _ _) m)) hrl hcon
        clear hcon hin
        gi_wp2_with (refine ⟨trivial, ?_⟩; gi_at_call 69; refine (CallsIn.inRound l (callsIn_wide.2 (hct 0))).mono ?_; rintro e w2 ⟨rfl, ⟨m, rfl⟩⟩)
        exact HQ.out _ _ ⟨keepsFrom_drewN _ _, KpN.of_below HBW.out.size (pw_below_drewN (Below.refl _ _) m), ⟨_, blk_drewN HBO.out m, by rw [HVS.out, varStep, if_pos HX0.out, if_pos HIN.out]; exact HROW.out⟩, pw_below_drewN HBW.out m⟩
      | false =>
        rw [hin] at hcon
        have HIN := Lib.hid hin
        have hct := fun m => slices_Contains_string_string.calls _ RA rc _ x.f1 false (W.drewN m) (Kd.C_below HRC.out (pw_below_drewN (Below.refl _ _) m)) hrl hcon
        clear hcon hin
        obtain ⟨i0, hi0, hz0, hz1, hz2⟩ := info_parts info_str
        have hl1 : (varsL (treeN pre) []).length + 1 ≤ 8796093022208 := by have := HLEN.out; simp at this; omega
        have hsW := HBW.out.size
        gi_wp2_with (first | (refine ⟨trivial, ?_⟩; gi_at_call 69; refine (CallsIn.inRound l (callsIn_wide.2 (hct 0))).mono ?_; rintro e w2 ⟨rfl, ⟨m, rfl⟩⟩) | (gi_at_builtin; refine wpListIn_append_own _ rfl _ _ 43 rfl w.heap.size 9 i0 (.string ⟨#[]⟩) 1 16 Try.underlying43 hi0 hz0 hz1 hz2 rfl (by decide) _ _ _ rfl ((pw_own_drewN HROW.out m).alloc _) ⟨W.heap.size, 0, none⟩ 1 1 [.string x.f1] rfl rfl (cell_one_new _ _ _) (by simp [Value.oneCell']) (by unfold maxLen; omega) (by omega) (by simp; omega) ?_; intro v' w3 hown' hgrow _; obtain ⟨g', cap', rfl⟩ := ownsRow_succ hown'; have hv1 := blk_kept_row HBO.out HROW.out (by decide) hgrow; obtain ⟨co3, fo3⟩ := box1 hv1))
        have hkp := KpN.appended (n₀ := w.heap.size) (m := (varsL (treeN pre) []).length) (xs := (varsL (treeN pre) []).map Value.string) (W := W.drewN m) hsW (Nat.le_refl _) (pw_own_drewN HROW.out m) (by decide) (by decide) hgrow
        have hkp2 : KpN w.heap.size W w3 := (KpN.of_below hsW (pw_below_drewN (Below.refl _ _) m)).trans hkp
        exact HQ.out _ _ ⟨(keepsFrom_appended HROW.out hgrow).trans (keepsFrom_set _ _ _), hkp2.set (by omega) hv1 (by decide) (by decide) 0 _, ⟨_, blk_put hv1 0 _ rfl, by rw [HVS.out, varStep, if_pos HX0.out, if_neg (by rw [HIN.out]; decide)]; exact own_set_far (by simpa using hown') hv1 (by decide) 0⟩, (HBW.out.trans hkp2.1).setCell (by simp) _⟩
  case done =>
    rintro D ys W hD hS hi hK
    obtain ⟨⟨v, hbo, hrow⟩, hbw2⟩ := hi
    obtain ⟨co, fo⟩ := box1 hbo
    rw [show treeN ys = preT t from hS] at hrow
    obtain ⟨RA, rc, rfl⟩ := own_slice hrow
    gi_wp2
    have hK2 : (W.setCell ⟨w.heap.size + 1, 0, none⟩ (.slice RA (varsL (preT t) []).length rc)).heap[D]? = some (.deferred (some [])) := (KeepsOthers.setCell W _ _).same D _ hK rfl
    have hDne : D ≠ w.heap.size + 1 := by rintro rfl; rw [hbo] at hK; cases hK
    refine ⟨by simp, .inl ⟨_, _, rfl, run_takeDeferred hK2, ?_⟩⟩
    have hbo2 : ((W.setCell ⟨w.heap.size + 1, 0, none⟩ (.slice RA (varsL (preT t) []).length rc)).putObj D (.deferred none)).heap[w.heap.size + 1]? = some (.cells #[.slice RA (varsL (preT t) []).length rc] 43 (0, 0)) :=
      (World.putObj_heap_other (Ne.symm hDne)).trans (blk_put hbo 0 _ rfl)
    obtain ⟨co2, _⟩ := box1 hbo2
    have hrow2 := ownsRow_putObj (own_set_far (u := .slice RA (varsL (preT t) []).length rc) hrow hbo (by decide) 0) (.deferred none) hK2 rfl
    have hb2 : Below w.heap.size w ((W.setCell ⟨w.heap.size + 1, 0, none⟩ (.slice RA (varsL (preT t) []).length rc)).putObj D (.deferred none)) := (hbw2.setCell (p := ⟨w.heap.size + 1, 0, none⟩) (by simp) _).trans (belowK_b (w := w) (Nat.le_refl _) _ D _ _ (by simp at hD; omega) hK2 rfl rfl)
    exact ⟨.tuple #[.slice RA (varsL (preT t) []).length rc, .int .i64 0], by simp [results, Try.results23, go_sem, co2], _, rfl, hrow2, hb2⟩
  case stop =>
    rintro D c pre W _ _ h _
    exact h.elim

def types_Vars.f (k : Nat) (a0_0 : Bool) (a0_1 : ByteArray) (l0_2 : List (S25)) : Option (List ByteArray × Int) :=
  (types_Check.f k a0_0 a0_1 l0_2).bind fun e => if e = 0 then (if szT ⟨a0_0, a0_1, l0_2⟩ ≤ 8796093022208 then some (varsL (preT ⟨a0_0, a0_1, l0_2⟩) [], 0) else none) else some ([], e)
theorem types_Vars.mono : ∀ a0 a1 a2 k, LeO (types_Vars.f k a0 a1 a2) (types_Vars.f (k + 1) a0 a1 a2) := fun a0 a1 a2 k => by
  unfold types_Vars.f
  exact LeO.bind (types_Check.mono _ _ _ _) (fun _ => LeO.refl _)

set_option maxHeartbeats 2000000 in
set_option maxRecDepth 100000 in
theorem types_Vars.calls (k : Nat) (a0_0 : Bool) (a0_1 : ByteArray) (A0_2 : Option Addr) (c0_2 : Nat) (l0_2 : List (S25)) (r1 : List ByteArray) (r2 : Int) (w : World) (hr0_2 : Kd.C k25 w A0_2 l0_2.length l0_2) (hc0_2 : l0_2.length ≤ c0_2) (h : types_Vars.f k a0_0 a0_1 l0_2 = some (r1, r2)) :
    Calls Try.prog 23 #[.agg #[.bool a0_0, .string a0_1, .slice A0_2 l0_2.length c0_2]] w fun e w' => ∃ v0_ : Value, e = .returned (.tuple #[v0_, .int .i64 r2]) ∧ Kd.R Kd.string 9 w' w.heap.size (fun _ => True) v0_ r1 ∧ Below w.heap.size w w' := by
  cases hck : types_Check.f k a0_0 a0_1 l0_2 with
  | none => rw [types_Vars.f, hck] at h; simp at h
  | some e =>
    rw [types_Vars.f, hck] at h
    simp only [Option.bind_some] at h
    by_cases he : e = 0
    · subst he
      rw [if_pos rfl] at h
      by_cases hs : szT ⟨a0_0, a0_1, l0_2⟩ ≤ 8796093022208
      · rw [if_pos hs] at h
        simp only [Option.some.injEq, Prod.mk.injEq] at h
        obtain ⟨rfl, rfl⟩ := h
        refine (vars_calls k ⟨a0_0, a0_1, l0_2⟩ A0_2 c0_2 w hr0_2 hc0_2 hck hs).mono ?_
        rintro e w' ⟨v, rfl, hrow, hb⟩
        exact ⟨v, rfl, Kd.R_of_own (enc := Value.string) (h1 := fun _ => rfl) hrow (fun _ _ => trivial), hb⟩
      · rw [if_neg hs] at h
        simp at h
    · rw [if_neg he] at h
      simp only [Option.some.injEq, Prod.mk.injEq] at h
      obtain ⟨rfl, rfl⟩ := h
      have hcc := fun W (hw : Below w.heap.size w W) => types_Check.calls k a0_0 a0_1 A0_2 c0_2 l0_2 e W (Kd.C_below hr0_2 hw) hc0_2 hck
      have hne : (e != 0) = true := bne_iff_ne.mpr he
      clear hck hr0_2 he
      go_enter Try.func23, Try.ntmps23
      go_wp2_with (go_at_call 28; refine (hcc _ (below_two _ _)).mono ?_; rintro e w1 ⟨rfl, hb1⟩; have hbw := below_step (below_two _ _) hb1; have BO := blk_below (blk_top (w := w) (.cells #[.bool a0_0, .string a0_1, .slice A0_2 l0_2.length c0_2] 25) (.cells #[.slice none 0 0] 43)) hb1; obtain ⟨y0, y1⟩ := box1 BO)
      obtain ⟨co, _⟩ := box1 (blk_put (cs' := #[.slice none 0 0]) BO 0 (.slice none 0 0) rfl)
      refine bodyPost_ret (v := .tuple #[.slice none 0 0, .int .i64 e]) (by simp [results, Try.results23, go_sem, co]) rfl ?_
      exact ⟨_, rfl, Kd.R_nil _ _ _ _ _, hbw.setCell (by simp) _⟩
end Go.Proofs.Ytgnklkmifcmlhaa.Q
