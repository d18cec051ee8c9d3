/- Proved here: parts of the proof of a given statement (HRowTypesTells): contracts of the functions that it reaches, what they answer, and in the last text the statement itself. Conditions: those that each theorem names. -/
import Derived.Test.YtgnklkmifcmlhaaZTtX4
import Derived.Test.YtgnklkmifcmlhaaZTtX6
import Derived.RangeFuncNested
import Derived.RangeFuncBound
import Derived.RangeFuncCalls
import Derived.RangeFuncLeaves
import Derived.Shelf.Abstract
import Derived.Shelf.RegionOpen
import Derived.OwnWalkIn
import Derived.TacticsInMore
import Derived.LoopNIn
import Derived.LoopIn
import Derived.Laws.EntriesVeiled
import Derived.Test.YtgnklkmifcmlhaaZTtX3
import Derived.Maps.AppendAt
import Derived.Deep.AppendLies
/- Proved here: the contract of types.nodes, ranged over. Conditions: those that each theorem names. -/
namespace Go.Proofs.Ytgnklkmifcmlhaa.Q
open Go.RowKit Go.Shelf Go.Proofs.YtgnklkmifcmlhaaW.PrintWords Go.Proofs.YtgnklkmifcmlhaaW.PrintMore
set_option linter.unusedVariables false
set_option linter.unusedSimpArgs false
attribute [local go_sem] Oper.semAt_some

/-! ### nodes: each node before its arguments -/
mutual
def preT : S25 → List S25
  | ⟨a, b, l⟩ => ⟨a, b, l⟩ :: preL l
def preL : List S25 → List S25
  | [] => []
  | x :: l => preT x ++ preL l
end
theorem preT_eq (t : S25) : preT t = t :: preL t.f2 := by cases t; simp [preT]
theorem preL_append : ∀ (l m : List S25), preL (l ++ m) = preL l ++ preL m
  | [], m => by simp [preL]
  | x :: l, m => by simp [preL, preL_append l m]
theorem szL_append : ∀ (l m : List S25), szL (l ++ m) = szL l + szL m
  | [], m => by simp [szL]
  | x :: l, m => by simp [szL, szL_append l m]; omega
theorem take_rd {α : Type} (l : List α) (z : α) (k : Nat) (h : k < l.length) : l.take (k + 1) = l.take k ++ [l.getD k z] := by
  rw [List.take_succ_eq_append_getElem h, List.getD_eq_getElem?_getD, List.getElem?_eq_getElem h]
  rfl
mutual
theorem preT_length : ∀ t : S25, (preT t).length = szT t
  | ⟨_, _, l⟩ => by simp [preT, szT, preL_length l]
theorem preL_length : ∀ l : List S25, (preL l).length = szL l
  | [] => by simp [preL, szL]
  | x :: l => by simp [preL, szL, preT_length x, preL_length l]
end
theorem szL_take_le (l : List S25) (k : Nat) (h : k < l.length) : szL (l.take k) + szT (l.getD k z25) ≤ szL l := by
  have h1 : l = l.take (k + 1) ++ l.drop (k + 1) := (List.take_append_drop _ _).symm
  have h2 := szL_append (l.take (k + 1)) (l.drop (k + 1))
  rw [← h1, take_rd l z25 k h, szL_append] at h2
  simp only [szL] at h2
  omega

theorem preL_child : ∀ (l : List S25) (x : S25), x ∈ l → ∀ y, y ∈ preT x → y ∈ preL l
  | a :: l, x, h, y, hy => by
    simp only [preL, List.mem_append]
    rcases List.mem_cons.1 h with rfl | h
    · exact .inl hy
    · exact .inr (preL_child l x h y hy)
theorem preT_child (t x : S25) (h : x ∈ t.f2) (y : S25) (hy : y ∈ preT x) : y ∈ preT t := by
  rw [preT_eq]
  exact List.mem_cons_of_mem _ (preL_child t.f2 x h y hy)

/-- A node, with where its arguments lie in w0. -/
abbrev NodeAt (w0 : World) (P : S25 → Prop) : Type := { p : S25 × Option Addr × Nat // (p.1.f2.length ≤ p.2.2 ∧ k25.C w0 p.2.1 p.1.f2.length p.1.f2) ∧ P p.1 }
abbrev encN {w0 : World} {P : S25 → Prop} (x : NodeAt w0 P) : Array Value := #[.agg #[.bool x.1.1.f0, .string x.1.1.f1, .slice x.1.2.1 x.1.1.f2.length x.1.2.2]]
abbrev treeN {w0 : World} {P : S25 → Prop} (ys : List (NodeAt w0 P)) : List S25 := ys.map (fun y => y.1.1)

/-- What a round keeps: what lay below n₀; and the variables of the iterator's own kinds. -/
def KpN (n₀ : Nat) (W W' : World) : Prop :=
  Below n₀ W W' ∧ ∀ (b : Nat) (cs : Array Value) (t : TypeId), (t = 25 ∨ t = 27) → W.heap[b]? = some (Obj.cells cs t (0, 0)) → W'.heap[b]? = some (Obj.cells cs t (0, 0))
theorem KpN.refl (n₀ : Nat) (W : World) : KpN n₀ W W := ⟨Below.refl _ _, fun _ _ _ _ h => h⟩
theorem KpN.trans {n₀ : Nat} {A B C : World} (h : KpN n₀ A B) (k : KpN n₀ B C) : KpN n₀ A C := ⟨h.1.trans k.1, fun b cs t ht hb => k.2 b cs t ht (h.2 b cs t ht hb)⟩
theorem KpN.of_below {n₀ : Nat} {A B : World} (hn : n₀ ≤ A.heap.size) (h : Below A.heap.size A B) : KpN n₀ A B := ⟨h.mono hn, fun b cs t _ hb => blk_below hb h⟩
theorem abides_alloc {β : Type} {B : Nat} {J : β → World → Prop} (h : AbidesFrom B J) {s : β} {W : World} (o : Obj) (hs : J s W) : J s (W.alloc o) := h s W _ none hs (World.grownBy_alloc W o none) (fun r e => by cases e)

set_option maxHeartbeats 1000000 in
set_option maxRecDepth 100000 in
theorem visit_in (F : Fence) (hd : F.depth = none) (hF : F.fn 107) (hro : F.round = none) (l N B : Nat) (w0 : World) (P : S25 → Prop) (J Jx : List (NodeAt w0 P) → World → Prop) (hJ : AbidesFrom B J)
    (hY : ∀ m pre x W, J pre W → pre.length < N → YieldAt F m Try.prog l (encN x) W fun e W' => (e = .returned (.bool true) ∧ J (pre ++ [x]) W' ∧ KpN w0.heap.size W W') ∨ (e = .returned (.bool false) ∧ Jx (pre ++ [x]) W'))
    (B1 B2 : Nat) : ∀ (k : Nat) (t : S25) (A : Option Addr) (c : Nat) (pre : List (NodeAt w0 P)) (W : World) (n : Nat), szT t ≤ k → (∀ y, y ∈ preT t → P y) → t.f2.length ≤ c → k25.C w0 A t.f2.length t.f2 → Below w0.heap.size w0 W → J pre W → pre.length + szT t ≤ N →
      W.heap[B1]? = some (.cells #[.func (.yield l) #[] #[]] 27 (0, 0)) → W.heap[B2]? = some (.cells #[.func (.func 107) #[] #[.pointer (some ⟨B1, 0, none⟩), .pointer (some ⟨B2, 0, none⟩)]] 27 (0, 0)) →
      CallsIn F n Try.prog 107 #[.agg #[.bool t.f0, .string t.f1, .slice A t.f2.length c], .pointer (some ⟨B1, 0, none⟩), .pointer (some ⟨B2, 0, none⟩)] W fun e W' =>
        (e = .returned (.bool true) ∧ (∃ ys, treeN ys = preT t ∧ J (pre ++ ys) W') ∧ KpN w0.heap.size W W') ∨ (e = .returned (.bool false) ∧ ∃ q, Jx q W') := by
  intro k
  induction k with
  | zero => intro t A c pre W n hk _; have := szT_pos t; omega
  | succ k ih =>
  intro t A c pre W n hk hP hc hC hb hJs hN h1 h2
  have hdd : ∀ k : Nat, (F.depth.isSome = true → 1 ≤ k) := fun k h => by rw [hd] at h; cases h
  have hnW : w0.heap.size ≤ W.heap.size := hb.size
  have b1 := box1 h1
  have b2 := box1 h2
  have l1 := blk_lt h1
  have l2 := blk_lt h2
  obtain ⟨b1c, _⟩ := b1
  obtain ⟨b2c, _⟩ := b2
  have BT := blk_new W (.cells #[.bool t.f0, .string t.f1, .slice A t.f2.length c] 25)
  obtain ⟨nd, hnd⟩ : ∃ nd : NodeAt w0 P, nd.1 = (t, A, c) := ⟨⟨(t, A, c), ⟨hc, hC⟩, hP t (by rw [preT_eq]; exact List.mem_cons_self)⟩, rfl⟩
  have hen : encN nd = #[.agg #[.bool t.f0, .string t.f1, .slice A t.f2.length c]] := by simp only [encN]; rw [hnd]
  obtain ⟨fn, tmps, assign, body, hy, hR⟩ := hY (n - 1) pre nd (W.alloc (.cells #[.bool t.f0, .string t.f1, .slice A t.f2.length c] 25)) (abides_alloc hJ _ hJs) (by have := szT_pos t; omega)
  have HK := Aside0.mk ih
  have HP := Aside0.mk hP
  have HT := Aside0.mk hC
  have HB := Aside0.mk hb
  have HJ := Aside0.mk hJ
  have HY := Aside0.mk hY
  have HBT := Aside0.mk BT
  have H1 := Aside0.mk h1
  have H2 := Aside0.mk h2
  clear ih hP hC hb hJs hJ hY BT h1 h2
  rw [hen] at hy
  have HN := Lib.hid hnd
  clear hnd hen
  refine callsIn_of_wp Try.func107 rfl hF ?_ hro
  simp only [Try.ntmps107, List.size_toArray, List.length_cons, List.length_nil, Nat.reduceAdd, Nat.reduceSub, Array.replicate_succ, Array.replicate_zero, List.push_toArray, List.append_toArray, List.nil_append, List.cons_append]
  gi_wp2
  refine hR.mono ?_
  rintro e W1 (⟨rfl, hJ1, hk1⟩ | ⟨rfl, hJx1⟩)
  · have BT1 := hk1.2 _ _ _ (.inl rfl) HBT.out
    have h1' := hk1.2 _ _ _ (.inr rfl) (blk_alloc H1.out _)
    have h2' := hk1.2 _ _ _ (.inr rfl) (blk_alloc H2.out _)
    obtain ⟨c0, c1, c2, _, _, _⟩ := box3 BT1
    have hkW : KpN w0.heap.size W W1 := ⟨((below_one _).mono hnW).trans hk1.1, fun b cs t ht hb => hk1.2 b cs t ht (blk_alloc hb _)⟩
    have HK1 := Aside0.mk hkW
    have H1' := Aside0.mk h1'
    have H2' := Aside0.mk h2'
    have HJ1 := Aside0.mk hJ1
    have hm := HT.out.2.1
    clear hkW h1' h2' hJ1 hk1 BT1 hR hy
    gi_wp2
    gi_loopw [6, 14] (fun _ s14 wr => ∃ kk : Nat, kk ≤ t.f2.length ∧ s14 = .int .i64 kk ∧ Aside0 (∃ ys, treeN ys = preL (t.f2.take kk) ∧ J (pre ++ nd :: ys) wr) ∧ Aside0 (KpN w0.heap.size W1 wr)) (fun _ s14 _ => t.f2.length - (intOf s14).toNat)
    case atStart => exact ⟨0, Nat.zero_le _, rfl, ⟨[], by simp [preL], by simpa using HJ1.out⟩, ⟨KpN.refl _ _⟩⟩
    case round =>
      obtain ⟨kk, hkk, rfl, HA, HW⟩ := hrel
      by_cases hlt : kk < t.f2.length
      · have hltz : (kk : Int) < (t.f2.length : Int) := by omega
        obtain ⟨ad, A2, d2, e1, hx0, hx1, hx2, hl2, hi2⟩ := at_T25 HT.out (kk : Int) (by omega) hltz
        cases e1
        simp only [Int.toNat_natCast] at hx0 hx1 hx2
        have hBr : Below w0.heap.size w0 wr := (HB.out.trans HK1.out.1).trans HW.out.1
        replace hx0 := pw_cell_below hBr hx0
        replace hx1 := pw_cell_below hBr hx1
        replace hx2 := pw_cell_below hBr hx2
        have hnr : w0.heap.size ≤ wr.heap.size := hBr.size
        have h1r := HW.out.2 _ _ _ (.inr rfl) H1'.out
        have h2r := HW.out.2 _ _ _ (.inr rfl) H2'.out
        have l1r := blk_lt h1r
        have l2r := blk_lt h2r
        obtain ⟨b1r, _⟩ := box1 h1r
        obtain ⟨b2r, _⟩ := box1 h2r
        obtain ⟨ys, hy1, hy2⟩ := HA.out
        have hlen : ys.length = szL (t.f2.take kk) := by rw [← preL_length, ← hy1]; simp
        have hX : rd_T25 t.f2 kk = t.f2.getD kk z25 := rfl
        have hsz := szL_take_le t.f2 kk hlt
        have htk := take_rd t.f2 z25 kk hlt
        rw [← hX] at hsz htk
        have hst := szT_eq t
        have HX0 := Lib.hid hX
        generalize rd_T25 t.f2 kk = x at *
        have hcall := HK.out x A2 d2 (pre ++ nd :: ys) (wr.alloc (.cells #[.bool x.f0, .string x.f1, .slice A2 x.f2.length d2] 25)) (n - 1) (by omega) (fun y hy => HP.out y (preT_child t x (by rw [HX0.out]; exact getD_mem _ _ kk hlt) y hy)) hl2 hi2 (hBr.alloc hnr _) (abides_alloc HJ.out _ hy2) (by simp; omega) (blk_alloc h1r _) (blk_alloc h2r _)
        have HY1 := Lib.hid hy1
        have HTK := Lib.hid htk
        have HSZ := Lib.hid hlen
        clear hX hsz htk hlen hy1 hy2 HA hst hl2 hi2 h1r h2r
        gi_wp2_with ((try refine ⟨hdd _, ?_⟩); gi_at_call 107; refine hcall.mono ?_; clear hcall; rintro e W3 (⟨rfl, ⟨zs, hz1, hz2⟩, hk3⟩ | ⟨rfl, q, hx3⟩))
        · have HZ1 := Lib.hid hz1
          clear hz1
          go_roundw
          case rel =>
            refine ⟨kk + 1, by omega, by go_num, ⟨ys ++ zs, ?_, by simpa using hz2⟩, ⟨HW.out.trans ⟨((below_one _).mono hnr).trans hk3.1, fun b cs t ht hb => hk3.2 b cs t ht (blk_alloc hb _)⟩⟩⟩
            rw [HTK.out, preL_append, ← HY1.out]
            simp [preL, ← HZ1.out]
          case measure => simp [intOf]; omega
        · gi_wp2
          go_ret
          exact .inr ⟨rfl, q, hx3⟩
      · have hltz : ¬ (kk : Int) < (t.f2.length : Int) := by omega
        gi_wp2
        go_ret
        obtain ⟨ys, hy1, hy2⟩ := HA.out
        refine .inl ⟨rfl, ⟨nd :: ys, ?_, hy2⟩, HK1.out.trans HW.out⟩
        show nd.1.1 :: treeN ys = _
        rw [preT_eq, show nd.1.1 = t by rw [HN.out], hy1, List.take_of_length_le (by omega)]
  · gi_wp2
    go_ret
    exact .inr ⟨rfl, _, hJx1⟩

theorem cells_own {β : Type} (b : Nat) (cs : Array Value) (t : TypeId) (B : Nat) : OwnFrom B (fun (_ : β) W => W.heap[b]? = some (Obj.cells cs t (0, 0))) := fun _ X Y row hs hg hr => by
  refine (hg.block b (blk_lt hs) (fun e => ?_)).trans hs
  obtain ⟨_, o, ho, hc⟩ := hr b e.symm
  rw [hs] at ho
  cases ho
  cases hc
theorem keepsFrom_below {B : Nat} {W W' : World} (h : Below W.heap.size W W') : KeepsFrom B W W' := ⟨h.size, fun k o _ hk _ => blk_below hk h⟩
theorem keepsFrom_set {B : Nat} (W : World) (a : Addr) (v : Value) : KeepsFrom B W (W.setCell a v) := (KeepsOthers.setCell W a v).from B
theorem keepsFrom_drewN {B : Nat} (W : World) (n : Nat) : KeepsFrom B W (W.drewN n) := ⟨Nat.le_refl _, fun _ _ _ h _ => h⟩
theorem KpN.set {n₀ : Nat} {A B : World} (h : KpN n₀ A B) {g : Nat} {t : TypeId} {cs : Array Value} (hg : n₀ ≤ g) (hB : B.heap[g]? = some (.cells cs t (0, 0))) (h1 : t ≠ 25) (h2 : t ≠ 27) (j : Nat) (v : Value) : KpN n₀ A (B.setCell ⟨g, j, none⟩ v) :=
  ⟨h.1.setCell hg _, fun b ds u hu hb => blk_far (h.2 b ds u hu hb) (by
    rintro rfl
    have hb2 := h.2 _ ds u hu hb
    rw [hB] at hb2
    cases hb2
    rcases hu with hu | hu
    · exact h1 hu
    · exact h2 hu) v⟩

theorem room_any {F : Fence} (hd : F.depth = none) (k : Nat) : F.room k := fun d h => by rw [hd] at h; cases h
theorem yield_any {F : Fence} (hd : F.depth = none) {m : Nat} (m' : Nat) {P : Program} {l : Nat} {args : Array Value} {W : World} {R : Ending → World → Prop} (h : YieldAt F m P l args W R) : YieldAt F m' P l args W R := by
  obtain ⟨fn, tmps, assign, body, hy, hR⟩ := h
  exact ⟨fn, tmps, assign, body, hy, ⟨hR.1, fun c cs _ => hR.2 c cs (room_any hd _)⟩⟩

set_option maxHeartbeats 1000000 in
set_option maxRecDepth 100000 in
/-- What nodes hands back: all nodes of the type, each before its arguments. -/
theorem nodes_stops (F : Fence) (hd : F.depth = none) (n : Nat) (h1 : F.fn 106) (h2 : F.fn 107) (hro : F.round = none) (Bt : Nat) (t : S25) (A : Option Addr) (c : Nat) (wT w : World) (hT : Below wT.heap.size wT w) (P : S25 → Prop) (hP : ∀ y, y ∈ preT t → P y)
    (hB : w.heap[Bt]? = some (.cells #[.bool t.f0, .string t.f1, .slice A t.f2.length c] 25 (0, 0))) (hc : t.f2.length ≤ c) (hC : k25.C wT A t.f2.length t.f2) :
    SeqStopsK F n Try.prog 106 #[.pointer (some ⟨Bt, 0, none⟩)] (encN (w0 := wT) (P := P)) (KpN wT.heap.size) (fun ys => treeN ys = preT t) (fun _ => True) (szT t) w := by
  intro l J Jx W hW hJ hJx hY h0
  have hdd : ∀ k : Nat, (F.depth.isSome = true → 1 ≤ k) := fun k h => by rw [hd] at h; cases h
  have hv := visit_in F hd h2 hro l (szT t) W.heap.size wT P J Jx hJ (fun m pre x W1 hj hl => yield_any hd m (hY pre x W1 hj hl)) W.heap.size (W.heap.size + 1) (szT t) t A c []
    ((W.alloc (.cells #[.func (.yield l) #[] #[]] 27)).alloc (.cells #[.func (.func 107) #[] #[.pointer (some ⟨W.heap.size, 0, none⟩), .pointer (some ⟨W.heap.size + 1, 0, none⟩)]] 27))
    (n - 1) (Nat.le_refl _) hP hc hC ((below_step hT hW).trans ((below_two _ _).mono (Nat.le_trans hT.size hW.size))) (abides_alloc hJ _ (abides_alloc hJ _ h0)) (by simp) (blk_mid _ _) (blk_top _ _)
  have hT' := hT
  clear hT
  obtain ⟨c0, c1, c2, _, _, _⟩ := box3 (blk_below hB hW)
  have lB := blk_lt (blk_below hB hW)
  clear hY hJ hJx h0 hB hC hW hT'
  show CallsIn F n Try.prog 106 #[.func (.yield l) #[] #[], .pointer (some ⟨Bt, 0, none⟩)] W _
  refine callsIn_of_wp Try.func106 rfl h1 ?_ hro
  simp only [Try.ntmps106, List.size_toArray, List.length_cons, List.length_nil, Nat.reduceAdd, Nat.reduceSub, Array.replicate_succ, Array.replicate_zero, List.push_toArray, List.append_toArray, List.nil_append, List.cons_append]
  gi_wp2_with ((try refine ⟨hdd _, ?_⟩); gi_at_call 107; refine hv.mono ?_; clear hv; rintro e W3 (⟨rfl, ⟨zs, hz1, hz2⟩, hk3⟩ | ⟨rfl, q, hx3⟩))
  · go_end0
    exact ⟨⟨_, rfl⟩, .inl ⟨zs, hz1, by simpa using hz2⟩⟩
  · go_end0
    exact ⟨⟨_, rfl⟩, .inr ⟨q, trivial, hx3⟩⟩

set_option maxHeartbeats 1000000 in
/-- nodes(t): the argument is boxed; the function value captures the box. -/
theorem nodes_in (F : Fence) (n : Nat) (h : F.fn 68) (hro : F.round = none) (a b c : Value) (w : World) :
    CallsIn F n Try.prog 68 #[.agg #[a, b, c]] w fun e w' => e = .returned (.func (.func 106) #[] #[.pointer (some ⟨w.heap.size, 0, none⟩)]) ∧ w' = w.alloc (.cells #[a, b, c] 25) := by
  refine callsIn_of_wp Try.func68 rfl h ?_ hro
  simp only [Try.ntmps68, List.size_toArray, List.length_cons, List.length_nil, Nat.reduceAdd, Nat.reduceSub, Array.replicate_succ, Array.replicate_zero, List.push_toArray, List.append_toArray, List.nil_append, List.cons_append]
  gi_wp2
  go_ret
  exact ⟨rfl, rfl⟩
end Go.Proofs.Ytgnklkmifcmlhaa.Q
/- Proved here: the contract of types.Vars. Conditions: those that each theorem names. -/
namespace Go.Proofs.Ytgnklkmifcmlhaa.Q
open Go.RowKit Go.Shelf Go.Proofs.YtgnklkmifcmlhaaW.PrintWords Go.Proofs.YtgnklkmifcmlhaaW.PrintMore
set_option linter.unusedVariables false
set_option linter.unusedSimpArgs false
attribute [local go_sem] Oper.semAt_some

/-! ### Vars -/
theorem info_str : (Try.prog.info? 9).map (fun i => (i.zero, i.size, i.bytes)) = some (some (.string ⟨#[]⟩), 1, 16) := by kernel_rfl
def inS (l : List ByteArray) (a : ByteArray) : Bool := l.any (fun s => a.toList == s.toList)
theorem index_l0 (l : List ByteArray) (a : ByteArray) (hl : l.length ≤ 4611686018427387904) : ∀ (d i : Nat), i + d = l.length → ∃ r : Int, slices_Index_string_string.l0 (d + 1) l a (l.length : Int) (i : Int) = some r ∧ decide (0 ≤ r) = (l.drop i).any (fun s => a.toList == s.toList)
  | 0, i, h => by
    refine ⟨-1, ?_, ?_⟩
    · rw [slices_Index_string_string.l0, if_neg (by omega)]
    · rw [List.drop_of_length_le (by omega)]; rfl
  | d + 1, i, h => by
    have hi : i < l.length := by omega
    have hd := drop_rd l ByteArray.empty i hi
    by_cases he : a.toList = (rdOf ByteArray.empty l (i : Int)).toList
    · refine ⟨i, ?_, ?_⟩
      · rw [slices_Index_string_string.l0, if_pos (by omega), if_pos (by omega), if_pos (by omega), if_pos he]
      · rw [hd, List.any_cons, show l.getD i ByteArray.empty = rdOf ByteArray.empty l (i : Int) from rfl]
        simp [he]
    · obtain ⟨r, hr, hq⟩ := index_l0 l a hl d (i + 1) (by omega)
      refine ⟨r, ?_, ?_⟩
      · rw [slices_Index_string_string.l0, if_pos (by omega), if_pos (by omega), if_pos (by omega), if_neg he, show wrap64 ((i : Int) + 1) = ((i + 1 : Nat) : Int) by unfold wrap64; omega]
        exact hr
      · rw [hq, hd, List.any_cons, show l.getD i ByteArray.empty = rdOf ByteArray.empty l (i : Int) from rfl]
        simp [he]
theorem contains_f (l : List ByteArray) (a : ByteArray) (hl : l.length ≤ 4611686018427387904) : slices_Contains_string_string.f (l.length + 1) l a = some (inS l a) := by
  obtain ⟨r, hr, hq⟩ := index_l0 l a hl l.length 0 (by omega)
  rw [slices_Contains_string_string.f, slices_Index_string_string.f]
  rw [show ((0 : Nat) : Int) = 0 from rfl] at hr
  rw [hr]
  simp only [Option.bind_some, Option.some.injEq]
  rw [List.drop_zero] at hq
  exact hq

def varStep (out : List ByteArray) (x : S25) : List ByteArray := if x.f0 = true then (if inS out x.f1 = true then out else out ++ [x.f1]) else out
def varsL (l : List S25) (out : List ByteArray) : List ByteArray := l.foldl varStep out
theorem varsL_len : ∀ (l : List S25) (out : List ByteArray), (varsL l out).length ≤ out.length + l.length
  | [], out => by simp [varsL]
  | x :: l, out => by
    have h := varsL_len l (varStep out x)
    have h2 : (varStep out x).length ≤ out.length + 1 := by unfold varStep; split <;> (try split) <;> simp
    simp only [varsL, List.foldl_cons, List.length_cons] at h ⊢
    omega

def VarsI (w : World) (ys : List S25) (W : World) : Prop :=
  (∃ v, W.heap[w.heap.size + 1]? = some (.cells #[v] 43 (0, 0)) ∧ W.ownsRow w.heap.size 9 1 v (varsL ys []).length ((varsL ys []).map Value.string)) ∧ Below w.heap.size w W
theorem VarsI.own {w : World} {B : Nat} (hB : w.heap.size ≤ B) : OwnFrom B (VarsI w) := by
  intro ys X Y row hs hg hr
  obtain ⟨⟨v, h1, h2⟩, h4⟩ := hs
  refine ⟨⟨v, cells_own (β := Unit) _ _ _ B () X Y row h1 hg hr, h2.kept hg ?_⟩, ownFrom_below (β := Unit) (Nat.le_refl _) hB () X Y row h4 hg hr⟩
  rcases h2.2 with ⟨rfl, _⟩ | ⟨g, cap, cur, rfl, _, hgb, _⟩
  · exact .inl rfl
  · refine .inr fun e' => ?_
    have e2 : some g = row := by simpa [Value.ownBlock] using e'
    obtain ⟨_, o, ho, hc⟩ := hr g e2.symm
    rw [hgb] at ho
    cases ho
    cases hc
theorem VarsI.alloc {w W : World} {ys : List S25} (h : VarsI w ys W) (o : Obj) : VarsI w ys (W.alloc o) :=
  ⟨by obtain ⟨v, h1, h2⟩ := h.1; exact ⟨v, blk_alloc h1 _, h2.alloc _⟩, h.2.alloc h.2.size _⟩
theorem KpN.appended {n₀ base e size : Nat} {W w1 : World} {o : Obj} {v : Value} {m : Nat} {xs : List Value} (hn : n₀ ≤ W.heap.size) (hb : n₀ ≤ base) (hrow : W.ownsRow base e size v m xs) (h1 : e ≠ 25) (h2 : e ≠ 27) (hg : (W.alloc o).grownBy w1 v.ownBlock) : KpN n₀ W w1 := by
  refine ⟨((Below.refl n₀ W).alloc hn o).grown hg (by simp; omega) (fun j ej => Nat.le_trans hb (own_base hrow j ej)), fun b cs t ht hbk => ?_⟩
  refine (hg.block b (by have := blk_lt hbk; simp; omega) (fun ej => ?_)).trans (blk_alloc hbk o)
  obtain ⟨cells, hc⟩ := own_typed hrow b ej.symm
  rw [hbk] at hc
  cases hc
  rcases ht with ht | ht
  · exact h1 ht
  · exact h2 ht

theorem blk_kept_row {W w1 : World} {n₀ m e size k b t : Nat} {o : Obj} {v : Value} {xs : List Value} {cs : Array Value} (hb : W.heap[b]? = some (Obj.cells cs t (0, 0))) (hrow : W.ownsRow n₀ e size v k xs) (hne : t ≠ e) (hg : ((W.drewN m).alloc o).grownBy w1 v.ownBlock) : w1.heap[b]? = some (Obj.cells cs t (0, 0)) := by
  refine (hg.block b (by have := blk_lt hb; simp; omega) (fun ej => ?_)).trans (blk_alloc (blk_drewN hb m) o)
  obtain ⟨cells, hc⟩ := own_typed hrow b ej.symm
  rw [hb] at hc
  cases hc
  exact hne rfl

theorem keepsFrom_appended {W w1 : World} {n₀ m e size k B : Nat} {o : Obj} {v : Value} {xs : List Value} (hrow : W.ownsRow n₀ e size v k xs) (hg : ((W.drewN m).alloc o).grownBy w1 v.ownBlock) : KeepsFrom B W w1 := by
  refine ⟨Nat.le_trans (by simp) hg.size, fun j ob _ hk ho => ?_⟩
  refine (hg.block j (by have := blk_lt hk; simp; omega) (fun ej => ?_)).trans (blk_alloc (blk_drewN hk m) o)
  obtain ⟨cells, hc⟩ := own_typed hrow j ej.symm
  rw [hk] at hc
  cases hc
  cases ho
theorem own_set_far {W : World} {n₀ e size k b t : Nat} {v u : Value} {xs : List Value} {cs : Array Value} (hrow : W.ownsRow n₀ e size v k xs) (hb : W.heap[b]? = some (Obj.cells cs t (0, 0))) (hne : t ≠ e) (j : Nat) : (W.setCell ⟨b, j, none⟩ u).ownsRow n₀ e size v k xs :=
  own_move hrow (fun q hq => Below.heap_setCell W ⟨b, j, none⟩ u q (by
    rintro rfl
    obtain ⟨cells, hc⟩ := own_typed hrow _ hq
    rw [hb] at hc
    cases hc
    exact hne rfl))

set_option maxHeartbeats 2000000 in
set_option maxRecDepth 100000 in
theorem vars_calls (kc : Nat) (t : S25) (B : Option Addr) (d : Nat) (w : World) (hB : k25.C w B t.f2.length t.f2) (hd2 : t.f2.length ≤ d) (hck : types_Check.f kc t.f0 t.f1 t.f2 = some 0) (hsz : szT t ≤ 8796093022208) :
    Calls Try.prog 23 #[.agg #[.bool t.f0, .string t.f1, .slice B t.f2.length d]] w fun e w' => ∃ v, e = .returned (.tuple #[v, .int .i64 0]) ∧ w'.ownsRow w.heap.size 9 1 v (varsL (preT t) []).length ((varsL (preT t) []).map Value.string) ∧ Below w.heap.size w w' := by
  have hcc := fun W (hw : Below w.heap.size w W) => types_Check.calls kc t.f0 t.f1 B d t.f2 0 W (Kd.C_below hB hw) hd2 hck
  refine (callsIn_wide (n := 6)).1 ?_
  refine callsIn_of_wp_marks Try.func23 rfl trivial ?_ rfl
  simp only [Try.ntmps23, List.size_toArray, List.length_cons, List.length_nil, Nat.reduceAdd, Nat.reduceSub, Array.replicate_succ, Array.replicate_zero, List.push_toArray, List.append_toArray, List.nil_append, List.cons_append]
  gi_wp2_with (first | (refine ⟨trivial, ?_⟩; gi_at_call 28; refine (callsIn_wide.2 (hcc _ (below_two _ _))).mono ?_; rintro e w1 ⟨rfl, hb1⟩; have hbw := below_step (below_two _ _) hb1; have BT := blk_below (blk_mid (w := w) (.cells #[.bool t.f0, .string t.f1, .slice B t.f2.length d] 25) (.cells #[.slice none 0 0] 43)) hb1; have BO := blk_below (blk_top (w := w) (.cells #[.bool t.f0, .string t.f1, .slice B t.f2.length d] 25) (.cells #[.slice none 0 0] 43)) hb1; obtain ⟨z0, z1, z2, _, _, _⟩ := box3 BT; obtain ⟨y0, y1⟩ := box1 BO) | (refine ⟨trivial, ?_⟩; gi_at_call 68; refine (nodes_in Fence.wide _ trivial rfl _ _ _ _).mono ?_; rintro e w' ⟨rfl, rfl⟩))
  have hb4 := below_step hbw (below_one (.cells #[.bool t.f0, .string t.f1, .slice B t.f2.length d] 25))
  have e1 := blk_alloc BO (.cells #[.bool t.f0, .string t.f1, .slice B t.f2.length d] 25)
  have e3 := blk_new w1 (.cells #[.bool t.f0, .string t.f1, .slice B t.f2.length d] 25)
  have hs1 : w.heap.size + 2 ≤ w1.heap.size := by have := blk_lt BO; omega
  refine wpIn_rangeFunc_ownH rfl (by omega) (gf := 106) (lb := #[.pointer (some ⟨w1.heap.size, 0, none⟩)]) rfl trivial (enters_of Try.func106 (by kernel_rfl) rfl)
    (nodes_stops Fence.wide rfl _ trivial trivial rfl w1.heap.size t B d w _ hb4 (fun _ => True) (fun _ _ => trivial) e3 hd2 hB) (fun h k => h.trans k)
    (fun W l o o' hl ho h1 h2 => ⟨?kb1, ?kb2⟩) (Below.refl _ _) (fun _ => rfl)
    (fun pre W => VarsI w (treeN pre) W) (fun _ _ _ => False)
    (fun pre X Y row hs hg hr => VarsI.own (by simp; omega) (treeN pre) X Y row hs hg hr) (fun _ _ _ _ _ hs _ _ => hs)
    ⟨⟨_, e1, World.ownsRow_nil _ _ _ _⟩, hb4⟩
    (fun x a' W => ∃ Bx, w.heap.size + 1 < Bx ∧ W.heap[Bx]? = some (.cells #[.bool x.1.1.f0, .string x.1.1.f1, .slice x.1.2.1 x.1.1.f2.length x.1.2.2] 25 (0, 0)) ∧ a' = { tmps := #[.agg #[.bool t.f0, .string t.f1, .slice B t.f2.length d], .pointer (some ⟨w.heap.size, 0, none⟩), .pointer (some ⟨w.heap.size + 1, 0, none⟩), .int .i64 0, .pointer (some ⟨Bx, 0, none⟩), .agg #[.bool t.f0, .string t.f1, .slice B t.f2.length d], .int .i64 0, .int .i64 0, .bool false, undef, .agg #[.bool t.f0, .string t.f1, .slice B t.f2.length d], .func (.func 106) #[] #[.pointer (some ⟨w1.heap.size, 0, none⟩)], .agg #[.bool x.1.1.f0, .string x.1.1.f1, .slice x.1.2.1 x.1.1.f2.length x.1.2.2], undef, undef, undef, undef, undef, undef, undef, undef, undef, undef, undef, undef, undef, undef, undef], defers := [] })
    (fun x a' _ X Y row hs hg hr => by obtain ⟨Bx, h1, h2, h3⟩ := hs; exact ⟨Bx, h1, cells_own (β := Unit) _ _ _ _ () X Y row h2 hg hr, h3⟩)
    ?assign ?body ?done ?stop
  case kb1 => exact belowK_b (w := w1.alloc _) hb4.size W l o o' hl ho h1 h2
  case kb2 =>
    intro b cs u _ hb
    exact (World.putObj_heap_other (by rintro rfl; rw [ho] at hb; cases hb; cases h1)).trans hb
  case assign =>
    rintro l pre x W K hi hK
    gi_wp2
    exact hK _ _ (keepsFrom_below (below_one _)) (KpN.of_below hi.2.size (below_one _)) (hi.alloc _) ⟨W.heap.size, by obtain ⟨v, h2, _⟩ := hi.1; exact blk_lt h2, blk_new _ _, rfl⟩
  case body =>
    rintro l pre x a' W hl ⟨rr, hrr⟩ hi ⟨Bx, hBx, bX, rfl⟩ hlt
    obtain ⟨Q, hQ, hpost⟩ : ∃ Q, (∀ a' W', KeepsFrom (w1.alloc (.cells #[.bool t.f0, .string t.f1, .slice B t.f2.length d] 25)).heap.size W W' ∧ KpN w.heap.size W W' ∧ VarsI w (treeN pre ++ [x.1.1]) W' → Q Exit.normal a' W') ∧ ownPostG (w1.alloc (.cells #[.bool t.f0, .string t.f1, .slice B t.f2.length d] 25)).heap.size (KpN w.heap.size) (fun pre W => VarsI w (treeN pre) W) (fun _ _ _ => False) (pre ++ [x]) W = Q :=
      ⟨_, fun a' W' h => ⟨h.1, h.2.1, by show VarsI w (treeN (pre ++ [x])) W'; rw [show treeN (pre ++ [x]) = treeN pre ++ [x.1.1] by simp]; exact h.2.2⟩, rfl⟩
    rw [hpost]
    have HQ := Aside0.mk hQ
    clear hpost hQ
    obtain ⟨⟨x, X, cx⟩, ⟨hxc, hxC⟩, hxP⟩ := x
    dsimp only at HQ bX hxc hxC hxP ⊢
    obtain ⟨⟨v, hbo, hrow⟩, hbw2⟩ := hi
    obtain ⟨cx0, cx1, cx2, _, _, _⟩ := box3 bX
    obtain ⟨co, fo⟩ := box1 hbo
    have lo := blk_lt hbo
    have lx := blk_lt bX
    have hlen := varsL_len (treeN pre) []
    have hpl : (treeN pre).length = pre.length := by simp
    have hvs : varsL (treeN pre ++ [x]) [] = varStep (varsL (treeN pre) []) x := by simp [varsL]
    have hcon := contains_f (varsL (treeN pre) []) x.f1 (by simp only [List.length_nil] at hlen; omega)
    obtain ⟨RA, rc, rfl, hrl, hrC⟩ := Kd.R_reads (Kd.R_of_own (h1 := fun _ => rfl) (e := 9) (ok := fun _ => True) (enc := Value.string) (xs := varsL (treeN pre) []) hrow (fun _ _ => trivial))
    have HBW := Aside0.mk hbw2
    have HBO := Aside0.mk hbo
    have HBX := Aside0.mk bX
    have HROW := Aside0.mk hrow
    have HVS := Lib.hid hvs
    have HLEN := Aside0.mk hlen
    have HRC := Aside0.mk hrC
    clear hbw2 hbo bX hrow hvs hlen hrC hxC hxP hcc hb4 e1 e3 hb1 hbw BT BO
    cases hx0 : x.f0 with
    | false =>
      rw [hx0] at cx0
      have HX0 := Lib.hid hx0
      clear hx0 hcon
      gi_wp2
      refine ⟨trivial, ?_⟩
      gi_wp2
      exact HQ.out _ _ ⟨KeepsFrom.refl _ _, KpN.refl _ _, ⟨_, HBO.out, by rw [HVS.out, varStep, if_neg (by rw [HX0.out]; decide)]; exact HROW.out⟩, HBW.out⟩
    | true =>
      rw [hx0] at cx0
      have HX0 := Lib.hid hx0
      clear hx0
      cases hin : inS (varsL (treeN pre) []) x.f1 with
      | true =>
        rw [hin] at hcon
        have HIN := Lib.hid hin
        have hct := fun m => slices_Contains_string_string.calls _ RA rc _ x.f1 true (W.drewN m) (Kd.C_below HRC.out (pw_below_drewN (Below.refl _ _) m)) hrl hcon
        clear hcon hin
        gi_wp2_with (refine ⟨trivial, ?_⟩; gi_at_call 69; refine (CallsIn.inRound l (callsIn_wide.2 (hct 0))).mono ?_; rintro e w2 ⟨rfl, ⟨m, rfl⟩⟩)
        exact HQ.out _ _ ⟨keepsFrom_drewN _ _, KpN.of_below HBW.out.size (pw_below_drewN (Below.refl _ _) m), ⟨_, blk_drewN HBO.out m, by rw [HVS.out, varStep, if_pos HX0.out, if_pos HIN.out]; exact HROW.out⟩, pw_below_drewN HBW.out m⟩
      | false =>
        rw [hin] at hcon
        have HIN := Lib.hid hin
        have hct := fun m => slices_Contains_string_string.calls _ RA rc _ x.f1 false (W.drewN m) (Kd.C_below HRC.out (pw_below_drewN (Below.refl _ _) m)) hrl hcon
        clear hcon hin
        obtain ⟨i0, hi0, hz0, hz1, hz2⟩ := info_parts info_str
        have hl1 : (varsL (treeN pre) []).length + 1 ≤ 8796093022208 := by have := HLEN.out; simp at this; omega
        have hsW := HBW.out.size
        gi_wp2_with (first | (refine ⟨trivial, ?_⟩; gi_at_call 69; refine (CallsIn.inRound l (callsIn_wide.2 (hct 0))).mono ?_; rintro e w2 ⟨rfl, ⟨m, rfl⟩⟩) | (gi_at_builtin; refine wpListIn_append_own _ rfl _ _ 43 rfl w.heap.size 9 i0 (.string ⟨#[]⟩) 1 16 Try.underlying43 hi0 hz0 hz1 hz2 rfl (by decide) _ _ _ rfl ((pw_own_drewN HROW.out m).alloc _) ⟨W.heap.size, 0, none⟩ 1 1 [.string x.f1] rfl rfl (cell_one_new _ _ _) (by simp [Value.oneCell']) (by unfold maxLen; omega) (by omega) (by simp; omega) ?_; intro v' w3 hown' hgrow _; obtain ⟨g', cap', rfl⟩ := ownsRow_succ hown'; have hv1 := blk_kept_row HBO.out HROW.out (by decide) hgrow; obtain ⟨co3, fo3⟩ := box1 hv1))
        have hkp := KpN.appended (n₀ := w.heap.size) (m := (varsL (treeN pre) []).length) (xs := (varsL (treeN pre) []).map Value.string) (W := W.drewN m) hsW (Nat.le_refl _) (pw_own_drewN HROW.out m) (by decide) (by decide) hgrow
        have hkp2 : KpN w.heap.size W w3 := (KpN.of_below hsW (pw_below_drewN (Below.refl _ _) m)).trans hkp
        exact HQ.out _ _ ⟨(keepsFrom_appended HROW.out hgrow).trans (keepsFrom_set _ _ _), hkp2.set (by omega) hv1 (by decide) (by decide) 0 _, ⟨_, blk_put hv1 0 _ rfl, by rw [HVS.out, varStep, if_pos HX0.out, if_neg (by rw [HIN.out]; decide)]; exact own_set_far (by simpa using hown') hv1 (by decide) 0⟩, (HBW.out.trans hkp2.1).setCell (by simp) _⟩
  case done =>
    rintro D ys W hD hS hi hK
    obtain ⟨⟨v, hbo, hrow⟩, hbw2⟩ := hi
    obtain ⟨co, fo⟩ := box1 hbo
    rw [show treeN ys = preT t from hS] at hrow
    obtain ⟨RA, rc, rfl⟩ := own_slice hrow
    gi_wp2
    have hK2 : (W.setCell ⟨w.heap.size + 1, 0, none⟩ (.slice RA (varsL (preT t) []).length rc)).heap[D]? = some (.deferred (some [])) := (KeepsOthers.setCell W _ _).same D _ hK rfl
    have hDne : D ≠ w.heap.size + 1 := by rintro rfl; rw [hbo] at hK; cases hK
    refine ⟨by simp, .inl ⟨_, _, rfl, run_takeDeferred hK2, ?_⟩⟩
    have hbo2 : ((W.setCell ⟨w.heap.size + 1, 0, none⟩ (.slice RA (varsL (preT t) []).length rc)).putObj D (.deferred none)).heap[w.heap.size + 1]? = some (.cells #[.slice RA (varsL (preT t) []).length rc] 43 (0, 0)) :=
      (World.putObj_heap_other (Ne.symm hDne)).trans (blk_put hbo 0 _ rfl)
    obtain ⟨co2, _⟩ := box1 hbo2
    have hrow2 := ownsRow_putObj (own_set_far (u := .slice RA (varsL (preT t) []).length rc) hrow hbo (by decide) 0) (.deferred none) hK2 rfl
    have hb2 : Below w.heap.size w ((W.setCell ⟨w.heap.size + 1, 0, none⟩ (.slice RA (varsL (preT t) []).length rc)).putObj D (.deferred none)) := (hbw2.setCell (p := ⟨w.heap.size + 1, 0, none⟩) (by simp) _).trans (belowK_b (w := w) (Nat.le_refl _) _ D _ _ (by simp at hD; omega) hK2 rfl rfl)
    exact ⟨.tuple #[.slice RA (varsL (preT t) []).length rc, .int .i64 0], by simp [results, Try.results23, go_sem, co2], _, rfl, hrow2, hb2⟩
  case stop =>
    rintro D c pre W _ _ h _
    exact h.elim

def types_Vars.f (k : Nat) (a0_0 : Bool) (a0_1 : ByteArray) (l0_2 : List (S25)) : Option (List ByteArray × Int) :=
  (types_Check.f k a0_0 a0_1 l0_2).bind fun e => if e = 0 then (if szT ⟨a0_0, a0_1, l0_2⟩ ≤ 8796093022208 then some (varsL (preT ⟨a0_0, a0_1, l0_2⟩) [], 0) else none) else some ([], e)
set_option maxHeartbeats 2000000 in
set_option maxRecDepth 100000 in
theorem types_Vars.calls (k : Nat) (a0_0 : Bool) (a0_1 : ByteArray) (A0_2 : Option Addr) (c0_2 : Nat) (l0_2 : List (S25)) (r1 : List ByteArray) (r2 : Int) (w : World) (hr0_2 : Kd.C k25 w A0_2 l0_2.length l0_2) (hc0_2 : l0_2.length ≤ c0_2) (h : types_Vars.f k a0_0 a0_1 l0_2 = some (r1, r2)) :
    Calls Try.prog 23 #[.agg #[.bool a0_0, .string a0_1, .slice A0_2 l0_2.length c0_2]] w fun e w' => ∃ v0_ : Value, e = .returned (.tuple #[v0_, .int .i64 r2]) ∧ Kd.R Kd.string 9 w' w.heap.size (fun _ => True) v0_ r1 ∧ Below w.heap.size w w' := by
  cases hck : types_Check.f k a0_0 a0_1 l0_2 with
  | none => rw [types_Vars.f, hck] at h; simp at h
  | some e =>
    rw [types_Vars.f, hck] at h
    simp only [Option.bind_some] at h
    by_cases he : e = 0
    · subst he
      rw [if_pos rfl] at h
      by_cases hs : szT ⟨a0_0, a0_1, l0_2⟩ ≤ 8796093022208
      · rw [if_pos hs] at h
        simp only [Option.some.injEq, Prod.mk.injEq] at h
        obtain ⟨rfl, rfl⟩ := h
        refine (vars_calls k ⟨a0_0, a0_1, l0_2⟩ A0_2 c0_2 w hr0_2 hc0_2 hck hs).mono ?_
        rintro e w' ⟨v, rfl, hrow, hb⟩
        exact ⟨v, rfl, Kd.R_of_own (enc := Value.string) (h1 := fun _ => rfl) hrow (fun _ _ => trivial), hb⟩
      · rw [if_neg hs] at h
        simp at h
    · rw [if_neg he] at h
      simp only [Option.some.injEq, Prod.mk.injEq] at h
      obtain ⟨rfl, rfl⟩ := h
      have hcc := fun W (hw : Below w.heap.size w W) => types_Check.calls k a0_0 a0_1 A0_2 c0_2 l0_2 e W (Kd.C_below hr0_2 hw) hc0_2 hck
      have hne : (e != 0) = true := bne_iff_ne.mpr he
      clear hck hr0_2 he
      go_enter Try.func23, Try.ntmps23
      go_wp2_with (go_at_call 28; refine (hcc _ (below_two _ _)).mono ?_; rintro e w1 ⟨rfl, hb1⟩; have hbw := below_step (below_two _ _) hb1; have BO := blk_below (blk_top (w := w) (.cells #[.bool a0_0, .string a0_1, .slice A0_2 l0_2.length c0_2] 25) (.cells #[.slice none 0 0] 43)) hb1; obtain ⟨y0, y1⟩ := box1 BO)
      obtain ⟨co, _⟩ := box1 (blk_put (cs' := #[.slice none 0 0]) BO 0 (.slice none 0 0) rfl)
      refine bodyPost_ret (v := .tuple #[.slice none 0 0, .int .i64 e]) (by simp [results, Try.results23, go_sem, co]) rfl ?_
      exact ⟨_, rfl, Kd.R_nil _ _ _ _ _, hbw.setCell (by simp) _⟩
end Go.Proofs.Ytgnklkmifcmlhaa.Q
/- Proved here: what In answers in the end; the variables of a type as a list. Conditions: those that each theorem names. -/
namespace Go.Proofs.Ytgnklkmifcmlhaa.Q
open Go.RowKit Go.Proofs.YtgnklkmifcmlhaaW.PrintWords Go.Proofs.YtgnklkmifcmlhaaW.PrintMore
set_option linter.unusedVariables false
set_option linter.unusedSimpArgs false

/-! ### In -/
theorem rdS (l : List ByteArray) (j : Nat) (h : j < l.length) : rdOf ByteArray.empty l (j : Int) = l[j] := by
  unfold rdOf
  simp only [Int.toNat_natCast]
  rw [List.getD_eq_getElem?_getD, List.getElem?_eq_getElem h]
  rfl
theorem in_ev (l : List ByteArray) (a : ByteArray) (hl : l.length ≤ 4611686018427387904) : Ev (fun k => sequentref01_In.f k l a) (inS l a) := by
  simp only [sequentref01_In.f]
  refine Ev.val (down (fun j => Ev (fun k => sequentref01_In.l0 k l a (j : Int)) (inS (l.drop j) a)) l.length ?_ ?_) (by simp)
  · refine Ev.succ ?_
    simp only [sequentref01_In.l0]
    refine Ev.neg (by omega) ((Ev.pure _).val ?_)
    simp [inS]
  · intro j hj h
    refine Ev.succ ?_
    simp only [sequentref01_In.l0]
    refine Ev.pos (by omega) (Ev.pos (by omega) ?_)
    rw [rdS l j hj, List.drop_eq_getElem_cons hj]
    refine Ev.ite (fun e => (Ev.pure _).val ?_) (fun e => ?_)
    · unfold inS
      rw [List.any_cons, e, beq_self_eq_true, Bool.true_or]
    · rw [w64s (by omega)]
      refine h.val ?_
      unfold inS
      rw [List.any_cons, beq_eq_false_iff_ne.2 (fun h => e h.symm), Bool.false_or]

/-! ### the variables of a type -/
end Go.Proofs.Ytgnklkmifcmlhaa.Q
/- Proved here: the contract of types.grown. Conditions: those that each theorem names. -/
namespace Go.Proofs.Ytgnklkmifcmlhaa.Q
open Go.RowKit Go.Shelf Go.Proofs.YtgnklkmifcmlhaaW.PrintWords Go.Proofs.YtgnklkmifcmlhaaW.PrintMore
set_option linter.unusedVariables false
set_option linter.unusedSimpArgs false
attribute [local go_sem] Oper.semAt_some

/-! ### grown -/
end Go.Proofs.Ytgnklkmifcmlhaa.Q
/- Proved here: the contract of types.inst. Conditions: those that each theorem names. -/
namespace Go.Proofs.Ytgnklkmifcmlhaa.Q
open Go.RowKit Go.Shelf Go.Proofs.YtgnklkmifcmlhaaW.PrintWords Go.Proofs.YtgnklkmifcmlhaaW.PrintMore
set_option linter.unusedVariables false
set_option linter.unusedSimpArgs false
attribute [local go_sem] Oper.semAt_some

/-! ### inst -/
end Go.Proofs.Ytgnklkmifcmlhaa.Q
/- Proved here: the contract of types.Inst. Conditions: those that each theorem names. -/
namespace Go.Proofs.Ytgnklkmifcmlhaa.Q
open Go.RowKit Go.Shelf Go.Proofs.YtgnklkmifcmlhaaW.PrintWords Go.Proofs.YtgnklkmifcmlhaaW.PrintMore
set_option linter.unusedVariables false
set_option linter.unusedSimpArgs false
attribute [local go_sem] Oper.semAt_some

/-! ### What Inst answers -/
end Go.Proofs.Ytgnklkmifcmlhaa.Q
/- Proved here: the contracts of chapter 1 over trees that are read. Conditions: those that each theorem names. -/
namespace Go.Proofs.Ytgnklkmifcmlhaa.Q
open Go.RowKit Go.Shelf Go.Proofs.YtgnklkmifcmlhaaW.PrintWords Go.Proofs.YtgnklkmifcmlhaaW.PrintMore
set_option linter.unusedVariables false
set_option linter.unusedSimpArgs false

/-- A value that reads as a tree. -/
def Tr (w : World) (a : Value) (t : S25) : Prop := ∃ A c, a = .agg #[.bool t.f0, .string t.f1, .slice A t.f2.length c] ∧ t.f2.length ≤ c ∧ k25.C w A t.f2.length t.f2
theorem Tr.later {w w' : World} {a : Value} {t : S25} (h : Tr w a t) (hb : Below w.heap.size w w') : Tr w' a t := by
  obtain ⟨A, c, rfl, hl, hC⟩ := h
  exact ⟨A, c, rfl, hl, Kd.C_below hC hb⟩
theorem nilC (A : Option Addr) (w : World) : k25.C w A ([] : List S25).length [] := ⟨rfl, by simp, fun h => absurd h (by simp)⟩
theorem Tr.leaf (v : Bool) (n : ByteArray) (w : World) : Tr w (.agg #[.bool v, .string n, .slice none 0 0]) ⟨v, n, []⟩ := ⟨none, 0, rfl, Nat.le_refl _, nilC _ _⟩
theorem Tr.of_WT {w : World} {ok : Nat → Prop} {b : Bool} {n : ByteArray} {v : Value} {l : List S25} (h : WT w ok v l) : Tr w (.agg #[.bool b, .string n, v]) ⟨b, n, l⟩ := by
  obtain ⟨A, c, rfl, hl, hC⟩ := h.reads
  exact ⟨A, c, rfl, hl, hC⟩
def Ret (w : World) (t : S25) (e : Ending) (w' : World) : Prop := ∃ r, e = .returned r ∧ Tr w' r t ∧ Below w.heap.size w w'
theorem fun_tr (x y : S25) (a b : Value) (w : World) (ha : Tr w a x) (hb : Tr w b y) (hx : szT x ≤ 5864062014805) (hy : szT y ≤ 5864062014805) : Calls Try.prog 36 #[a, b] w (Ret w ⟨false, funN, [x, y]⟩) := by
  obtain ⟨A, c, rfl, hc, hA⟩ := ha
  obtain ⟨B, d, rfl, hd, hB⟩ := hb
  refine (fun_calls x y A c B d w hA hc hB hd hx hy).mono ?_
  rintro e w' ⟨v, rfl, hT, hb⟩
  exact ⟨_, rfl, Tr.of_WT hT, hb⟩
def varsF (t : S25) : List ByteArray × Int := if chkB t = true then (varsL (preT t) [], 0) else ([], 10)
theorem vars_ev (t : S25) (hf : fit t) : Ev (fun k => types_Vars.f k t.f0 t.f1 t.f2) (varsF t) := by
  obtain ⟨tv, tn, tl⟩ := t
  simp only [types_Vars.f]
  refine Ev.bind (check_ev _ hf) ?_
  unfold varsF
  cases hc : chkB ⟨tv, tn, tl⟩ with
  | false => simp; exact Ev.pure _
  | true =>
    have hs := (chkB_sh hc).2.1
    simp
    rw [if_pos (show szT ⟨tv, tn, tl⟩ ≤ 8796093022208 by omega)]
    exact Ev.pure _
theorem vars_tr (t : S25) (a : Value) (w : World) (ha : Tr w a t) (hf : fit t) : Calls Try.prog 23 #[a] w fun e w' => ∃ A c, e = .returned (.tuple #[.slice A (varsF t).1.length c, .int .i64 (varsF t).2]) ∧ (varsF t).1.length ≤ c ∧ Kd.C Kd.string w' A (varsF t).1.length (varsF t).1 ∧ Below w.heap.size w w' := by
  obtain ⟨A, c, rfl, hc, hA⟩ := ha
  obtain ⟨k, hk⟩ := (vars_ev t hf).at
  refine (types_Vars.calls k t.f0 t.f1 A c t.f2 (varsF t).1 (varsF t).2 w hA hc hk).mono ?_
  rintro e w' ⟨v, rfl, hR, hb⟩
  obtain ⟨A2, c2, rfl, hl, hC⟩ := Kd.R_reads hR
  exact ⟨A2, c2, rfl, hl, hC, hb⟩
/-! ### Literal rows -/
end Go.Proofs.Ytgnklkmifcmlhaa.Q
/- Proved here: the contract of the reference's More. Conditions: those that each theorem names. -/
namespace Go.Proofs.Ytgnklkmifcmlhaa.Q
open Go.RowKit Go.Shelf Go.Proofs.YtgnklkmifcmlhaaW.PrintWords Go.Proofs.YtgnklkmifcmlhaaW.PrintMore
set_option linter.unusedVariables false
set_option linter.unusedSimpArgs false
attribute [local go_sem] Oper.semAt_some

def MorePost (w0 w : World) (v : Value) (l : List ByteArray) (e : Ending) (w' : World) : Prop :=
  ∃ v', e = .returned v' ∧ w.grownBy w' v.ownBlock ∧ Kd.R Kd.string 9 w' w0.heap.size (fun _ => True) v' l ∧ (v'.ownBlock = v.ownBlock ∨ ∃ b, v'.ownBlock = some b ∧ w.heap.size ≤ b)
structure MoreAt (w0 w : World) (t : S25) (A : Option Addr) (c : Nat) (v : Value) (l1 : List ByteArray) (kk : Nat) (v' : Value) (W : World) : Prop where
  box : W.heap[w.heap.size]? = some (.cells #[.bool t.f0, .string t.f1, .slice A t.f2.length c] 25 (0, 0))
  row : Kd.R Kd.string 9 W w0.heap.size (fun _ => True) v' (varsL (preL (t.f2.take kk)) l1)
  gr : w.grownBy W v.ownBlock
  own : v'.ownBlock = v.ownBlock ∨ ∃ b, v'.ownBlock = some b ∧ w.heap.size ≤ b
theorem varsL_app (a b : List S25) (l : List ByteArray) : varsL (a ++ b) l = varsL b (varsL a l) := List.foldl_append ..
theorem varsL_next (t : S25) (l1 : List ByteArray) (kk : Nat) (h : kk < t.f2.length) : varsL (preL (t.f2.take (kk + 1))) l1 = varsL (preT t.f2[kk]) (varsL (preL (t.f2.take kk)) l1) := by
  rw [List.take_succ_eq_append_getElem h, preL_append, varsL_app]
  simp [preL]
theorem more_after {w0 wr w1 : World} {g : Nat} {x : Array Value} {v : Value} {l : List ByteArray} (hb : Below w0.heap.size w0 wr) (b3 : wr.heap[g]? = some (.cells x 25 (0, 0))) (hrow : Kd.R Kd.string 9 wr w0.heap.size (fun _ => True) v l) (hg : wr.grownBy w1 v.ownBlock) :
    Below w0.heap.size w0 w1 ∧ w1.heap[g]? = some (.cells x 25 (0, 0)) := by
  obtain ⟨_, _, ho, _⟩ := hrow
  have hne : some g ≠ v.ownBlock := fun e => by
    obtain ⟨cells, hc⟩ := own_typed ho g e.symm
    rw [b3] at hc
    injection hc with hc
    injection hc with _ hc
    exact absurd hc (by decide)
  exact ⟨hb.grown hg hb.size (fun k hk => own_base ho k hk), (hg.block g (blk_lt b3) hne).trans b3⟩
def Lock3 (p : Prop) : Prop := p
theorem lock3_ {p : Prop} (h : Lock3 p) : p := h
set_option maxHeartbeats 2000000 in
set_option maxRecDepth 100000 in
theorem more_calls (w0 : World) : ∀ (n : Nat) (t : S25) (A : Option Addr) (c : Nat) (l : List ByteArray) (v : Value) (w : World), szT t ≤ n → k25.C w0 A t.f2.length t.f2 → t.f2.length ≤ c → Below w0.heap.size w0 w → Kd.R Kd.string 9 w w0.heap.size (fun _ => True) v l → l.length + szT t ≤ 1000000 →
    Calls Try.prog 70 #[v, .agg #[.bool t.f0, .string t.f1, .slice A t.f2.length c]] w (MorePost w0 w v (varsL (preT t) l))
  | 0, t, _, _, _, _, _, h, _, _, _, _, _ => by have := szT_pos t; omega
  | n + 1, t, A, c, l, v, w, hn, hA, hc, hb, hv, hs => by
    have h2 := szT_eq' t
    have hlt := szL_len t.f2
    have ih := fun (kk : Nat) (h1 : kk < t.f2.length) A' c' l' v' W => more_calls w0 n t.f2[kk] A' c' l' v' W (by
      have := szL_mem t.f2 _ (List.getElem_mem h1)
      omega)
    have IH := Aside0.mk ih
    have hvp : varsL (preT t) l = varsL (preL t.f2) (varStep l t) := by rw [preT_eq]; rfl
    rw [hvp]
    have hbx := below_one (w := w) (.cells #[.bool t.f0, .string t.f1, .slice A t.f2.length c] 25)
    have BX := blk_new w (.cells #[.bool t.f0, .string t.f1, .slice A t.f2.length c] 25)
    obtain ⟨x0, x1, x2, x3, x4, x5, x6⟩ := box3s BX
    have HA := Aside0.mk hA
    have HC := Aside0.mk hc
    have HBW := Aside0.mk hb
    have HSZ := Aside0.mk hs
    have hl1 : (varStep l t).length ≤ l.length + 1 := by unfold varStep; split <;> (try split) <;> simp
    have hvl : ∀ kk, kk ≤ t.f2.length → (varsL (preL (t.f2.take kk)) (varStep l t)).length ≤ l.length + 1 + szL (t.f2.take kk) := fun kk _ => by
      have := varsL_len (preL (t.f2.take kk)) (varStep l t)
      rw [preL_length] at this
      omega
    have HVL := Aside0.mk hvl
    have hv' : Kd.R Kd.string 9 w w0.heap.size (fun _ => True) v l := hv
    obtain ⟨RA, rc, rfl, hrl, hrC⟩ := Kd.R_reads hv
    obtain ⟨ki, hki⟩ := (in_ev l t.f1 (by omega)).at
    have h41 := fun W (hw : Below w.heap.size w W) => sequentref01_In.calls ki RA rc l t.f1 _ W (Kd.C_below hrC hw) hrl hki
    have HV := Aside0.mk hv
    have HBX := Aside0.mk hbx
    have HS1 := Aside0.mk hn
    clear hA hc hb hs ih hvp hvl hki hrC hv hv' hn
    have hend : ∀ (v1 : Value) (W : World), MoreAt w0 w t A c (.slice RA l.length rc) (varStep l t) t.f2.length v1 W → MorePost w0 w (.slice RA l.length rc) (varsL (preL t.f2) (varStep l t)) (.returned v1) W := fun v1 W h => by
      have h1 := h.row
      rw [List.take_length] at h1
      exact ⟨v1, rfl, h.gr, h1, h.own⟩
    have HEND := Aside0.mk hend
    clear hend
    by_cases hh : t.f0 = true ∧ inS l t.f1 = false
    case pos =>
      obtain ⟨hv0, hin⟩ := hh
      rw [hin] at h41
      have hst : varStep l t = l ++ [t.f1] := by unfold varStep; rw [if_pos hv0, if_neg (by rw [hin]; simp)]
      have HST := Lib.hid hst
      have HV0 := Lib.hid hv0
      rw [hv0] at x0
      clear hst hin
      rw [hv0]
      rw [hv0] at BX hbx x1 x2 x3 x4 x5 x6
      go_enter Try.func70, Try.ntmps70
      go_wp2_with (first | ((with_reducible refine gate_dst (N := 19) rfl ?_); refine lock3_ ?_) | (go_at_call 41; (with_reducible refine (h41 _ (by with_reducible assumption)).mono ?_); rintro e W1 ⟨rfl, hd⟩; have hc1 := hd.below; have BX1 := blk_below BX hc1; obtain ⟨x0, x1, x2, x3, x4, x5, x6⟩ := box3s BX1))
      unfold Lock3
      have hb1 := below_step hbx hc1
      have HR1 := Kd.R_below HV.out hb1
      refine Kd.R_append Kd.string (w0 := w0) w0.heap.size (by rfl) (.tmp 15) (.tmp 18) 43 9 (.string ⟨#[]⟩) 16 (by rfl) Try.underlying43 info_str (by rfl) (by decide) (by decide) (.slice RA l.length rc) l t.f1 [.string t.f1] (fun _ => True) (fun _ => False) (by rfl) (by rfl) rfl (fun _ h => h.elim) (fun _ _ => trivial) HR1 (below_step HBW.out hb1) (below_step HBW.out hb1).size (by have := HSZ.out; omega) ?_
      intro v2 W2 hR2 hB2 hg2 hat2
      have hM0 : MoreAt w0 w t A c (.slice RA l.length rc) (varStep l t) 0 v2 W2 := ⟨by rw [HV0.out]; exact (more_after (below_step HBW.out hb1) BX1 HR1 hg2).2, by rw [HST.out]; exact hR2, (grown_of_below hb1 _).trans2 hg2 (.inl rfl), by
        rcases hat2 with h | ⟨b, h, hlb⟩
        · exact .inl h
        · exact .inr ⟨b, h, Nat.le_trans hb1.size hlb⟩⟩
      have HHR := Aside0.mk hR2
      clear hR2 hB2 hg2 hat2 HR1 hb1 BX1 hd hc1 x0 x1 x2 x3 x4 x5 x6
      clear h41 BX hbx HBX HHR
      go_wp2_with fail
      go_loopg [0, 5] t.f2.length (fun gg v0 v5 wr => ∃ kk : Nat, kk ≤ t.f2.length ∧ gg + kk = t.f2.length ∧ v5 = .int .i64 (kk : Int) ∧ Aside0 (MoreAt w0 w t A c (.slice RA l.length rc) (varStep l t) kk v0 wr))
      case atStart => exact ⟨0, by omega, by omega, rfl, ⟨hM0⟩⟩
      case round =>
        obtain ⟨kk, hk1, hk2, rfl, HM⟩ := hrel
        clear hM0
        obtain ⟨BXr, hrow, hgr, hown⟩ := HM.out
        obtain ⟨x0, x1, x2, x3, x4, x5, x6⟩ := box3s BXr
        have hbw : Below w0.heap.size w0 wr := ⟨hgr.os.trans HBW.out.os, hgr.tape.trans HBW.out.tape, hgr.output.trans HBW.out.output, Nat.le_trans HBW.out.size hgr.size, fun k hk => (hgr.block k (Nat.lt_of_lt_of_le hk HBW.out.size) (fun e => by
          obtain ⟨_, _, ho, _⟩ := HV.out
          have := own_base ho k e.symm
          omega)).trans (HBW.out.block k hk)⟩
        obtain ⟨RA', rc', rfl⟩ := Kd.R_slice hrow
        by_cases hkk : kk < t.f2.length
        · have q0 : decide (kk < t.f2.length) = true := decide_eq_true hkk
          obtain ⟨ap, A2, c2, rfl, p0, p1, p2, hl2, hC2⟩ := at_T25 HA.out (kk : Int) (by omega) (by omega)
          simp only [Int.toNat_natCast] at p0 p1 p2
          rw [rdT t.f2 kk hkk] at p0 p1 p2 hl2 hC2
          replace p0 := pw_cell_below hbw p0
          replace p1 := pw_cell_below hbw p1
          replace p2 := pw_cell_below hbw p2
          have hcall := IH.out kk hkk A2 c2 _ (.slice RA' (varsL (preL (t.f2.take kk)) (varStep l t)).length rc') wr hC2 hl2 hbw hrow (by
            have h1 := szL_le t.f2 kk hkk
            have h2 := HVL.out kk hk1
            have h3 := HSZ.out
            omega)
          have haft := fun w1 (hg1 : wr.grownBy w1 (Value.slice RA' (varsL (preL (t.f2.take kk)) (varStep l t)).length rc').ownBlock) => more_after hbw BXr hrow hg1
          have hnx := varsL_next t (varStep l t) kk hkk
          have HNX := Lib.hid hnx
          have HM2 := Aside0.mk HM.out
          clear hrow hgr hown hnx hC2 hl2 HM
          generalize t.f2[kk] = x at *
          generalize (varsL (preL (t.f2.take kk)) (varStep l t)).length = nl at *
          go_wp2_with (go_at_call 70; (with_reducible refine hcall.mono ?_); rintro e w1 ⟨v', rfl, hg1, hR1, ho1⟩; obtain ⟨hbz, b3z⟩ := haft w1 hg1)
          have hM3 : MoreAt w0 w t (some ap) c (.slice RA l.length rc) (varStep l t) (kk + 1) v' w1 := ⟨b3z, by rw [HNX.out]; exact hR1, HM2.out.gr.trans2 hg1 HM2.out.own, own_trans HM2.out.gr.size HM2.out.own ho1⟩
          clear hcall haft hg1 hR1 ho1 hbz b3z
          go_roundg (t.f2.length - kk - 1)
          case measure => omega
          case rel =>
            have hkb : kk < 1000000 := by have := HSZ.out; omega
            exact ⟨kk + 1, by omega, by omega, by simp <;> (unfold wrap64; omega), ⟨hM3⟩⟩
        · have q0 : decide (kk < t.f2.length) = false := decide_eq_false hkk
          obtain rfl : kk = t.f2.length := by omega
          clear hrow hgr hown hbw
          go_wp2
          go_ret
          exact HEND.out _ _ HM.out
    case neg =>
      have hst : varStep l t = l := by
        unfold varStep
        split
        · rename_i hv
          rw [if_pos]
          cases hi : inS l t.f1 with
          | true => rfl
          | false => exact absurd ⟨hv, hi⟩ hh
        · rfl
      cases hv0 : t.f0 with
      | false =>
        have HV0 := Lib.hid hv0
        rw [hv0] at BX hbx x0 x1 x2 x3 x4 x5 x6
        have hM0 : MoreAt w0 w t A c (.slice RA l.length rc) (varStep l t) 0 (.slice RA l.length rc) (w.alloc (.cells #[.bool false, .string t.f1, .slice A t.f2.length c] 25)) := ⟨by rw [hv0]; exact BX, by rw [hst]; exact Kd.R_below HV.out hbx, grown_of_below hbx _, .inl rfl⟩
        clear hst hh h41 hv0
        go_enter Try.func70, Try.ntmps70
        clear BX hbx HBX x0 x1 x2 x3 x4 x5 x6
        go_wp2_with fail
        go_loopg [0, 5] t.f2.length (fun gg v0 v5 wr => ∃ kk : Nat, kk ≤ t.f2.length ∧ gg + kk = t.f2.length ∧ v5 = .int .i64 (kk : Int) ∧ Aside0 (MoreAt w0 w t A c (.slice RA l.length rc) (varStep l t) kk v0 wr))
        case atStart => exact ⟨0, by omega, by omega, rfl, ⟨hM0⟩⟩
        case round =>
          obtain ⟨kk, hk1, hk2, rfl, HM⟩ := hrel
          clear hM0
          obtain ⟨BXr, hrow, hgr, hown⟩ := HM.out
          obtain ⟨x0, x1, x2, x3, x4, x5, x6⟩ := box3s BXr
          have hbw : Below w0.heap.size w0 wr := ⟨hgr.os.trans HBW.out.os, hgr.tape.trans HBW.out.tape, hgr.output.trans HBW.out.output, Nat.le_trans HBW.out.size hgr.size, fun k hk => (hgr.block k (Nat.lt_of_lt_of_le hk HBW.out.size) (fun e => by
            obtain ⟨_, _, ho, _⟩ := HV.out
            have := own_base ho k e.symm
            omega)).trans (HBW.out.block k hk)⟩
          obtain ⟨RA', rc', rfl⟩ := Kd.R_slice hrow
          by_cases hkk : kk < t.f2.length
          · have q0 : decide (kk < t.f2.length) = true := decide_eq_true hkk
            obtain ⟨ap, A2, c2, rfl, p0, p1, p2, hl2, hC2⟩ := at_T25 HA.out (kk : Int) (by omega) (by omega)
            simp only [Int.toNat_natCast] at p0 p1 p2
            rw [rdT t.f2 kk hkk] at p0 p1 p2 hl2 hC2
            replace p0 := pw_cell_below hbw p0
            replace p1 := pw_cell_below hbw p1
            replace p2 := pw_cell_below hbw p2
            have hcall := IH.out kk hkk A2 c2 _ (.slice RA' (varsL (preL (t.f2.take kk)) (varStep l t)).length rc') wr hC2 hl2 hbw hrow (by
              have h1 := szL_le t.f2 kk hkk
              have h2 := HVL.out kk hk1
              have h3 := HSZ.out
              omega)
            have haft := fun w1 (hg1 : wr.grownBy w1 (Value.slice RA' (varsL (preL (t.f2.take kk)) (varStep l t)).length rc').ownBlock) => more_after hbw BXr hrow hg1
            have hnx := varsL_next t (varStep l t) kk hkk
            have HNX := Lib.hid hnx
            have HM2 := Aside0.mk HM.out
            clear hrow hgr hown hnx hC2 hl2 HM
            generalize t.f2[kk] = x at *
            generalize (varsL (preL (t.f2.take kk)) (varStep l t)).length = nl at *
            go_wp2_with (go_at_call 70; (with_reducible refine hcall.mono ?_); rintro e w1 ⟨v', rfl, hg1, hR1, ho1⟩; obtain ⟨hbz, b3z⟩ := haft w1 hg1)
            have hM3 : MoreAt w0 w t (some ap) c (.slice RA l.length rc) (varStep l t) (kk + 1) v' w1 := ⟨b3z, by rw [HNX.out]; exact hR1, HM2.out.gr.trans2 hg1 HM2.out.own, own_trans HM2.out.gr.size HM2.out.own ho1⟩
            clear hcall haft hg1 hR1 ho1 hbz b3z
            go_roundg (t.f2.length - kk - 1)
            case measure => omega
            case rel =>
              have hkb : kk < 1000000 := by have := HSZ.out; omega
              exact ⟨kk + 1, by omega, by omega, by simp <;> (unfold wrap64; omega), ⟨hM3⟩⟩
          · have q0 : decide (kk < t.f2.length) = false := decide_eq_false hkk
            obtain rfl : kk = t.f2.length := by omega
            clear hrow hgr hown hbw
            go_wp2
            go_ret
            exact HEND.out _ _ HM.out
      | true =>
        have hin : inS l t.f1 = true := by
          cases hi : inS l t.f1 with
          | true => rfl
          | false => exact absurd ⟨hv0, hi⟩ hh
        rw [hin] at h41
        have HV0 := Lib.hid hv0
        rw [hv0] at BX hbx x0 x1 x2 x3 x4 x5 x6
        have HST := Lib.hid hst
        clear hst hh hin hv0
        go_enter Try.func70, Try.ntmps70
        go_wp2_with (go_at_call 41; (with_reducible refine (h41 _ (by with_reducible assumption)).mono ?_); rintro e W1 ⟨rfl, hd⟩; have hc1 := hd.below; have BX1 := blk_below BX hc1; obtain ⟨x0, x1, x2, x3, x4, x5, x6⟩ := box3s BX1)
        have hb1 := below_step hbx hc1
        have hM0 : MoreAt w0 w t A c (.slice RA l.length rc) (varStep l t) 0 (.slice RA l.length rc) W1 := ⟨by rw [HV0.out]; exact BX1, by rw [HST.out]; exact Kd.R_below HV.out hb1, grown_of_below hb1 _, .inl rfl⟩
        clear h41 BX hbx HBX BX1 hb1 hd hc1 x0 x1 x2 x3 x4 x5 x6
        go_wp2_with fail
        go_loopg [0, 5] t.f2.length (fun gg v0 v5 wr => ∃ kk : Nat, kk ≤ t.f2.length ∧ gg + kk = t.f2.length ∧ v5 = .int .i64 (kk : Int) ∧ Aside0 (MoreAt w0 w t A c (.slice RA l.length rc) (varStep l t) kk v0 wr))
        case atStart => exact ⟨0, by omega, by omega, rfl, ⟨hM0⟩⟩
        case round =>
          obtain ⟨kk, hk1, hk2, rfl, HM⟩ := hrel
          clear hM0
          obtain ⟨BXr, hrow, hgr, hown⟩ := HM.out
          obtain ⟨x0, x1, x2, x3, x4, x5, x6⟩ := box3s BXr
          have hbw : Below w0.heap.size w0 wr := ⟨hgr.os.trans HBW.out.os, hgr.tape.trans HBW.out.tape, hgr.output.trans HBW.out.output, Nat.le_trans HBW.out.size hgr.size, fun k hk => (hgr.block k (Nat.lt_of_lt_of_le hk HBW.out.size) (fun e => by
            obtain ⟨_, _, ho, _⟩ := HV.out
            have := own_base ho k e.symm
            omega)).trans (HBW.out.block k hk)⟩
          obtain ⟨RA', rc', rfl⟩ := Kd.R_slice hrow
          by_cases hkk : kk < t.f2.length
          · have q0 : decide (kk < t.f2.length) = true := decide_eq_true hkk
            obtain ⟨ap, A2, c2, rfl, p0, p1, p2, hl2, hC2⟩ := at_T25 HA.out (kk : Int) (by omega) (by omega)
            simp only [Int.toNat_natCast] at p0 p1 p2
            rw [rdT t.f2 kk hkk] at p0 p1 p2 hl2 hC2
            replace p0 := pw_cell_below hbw p0
            replace p1 := pw_cell_below hbw p1
            replace p2 := pw_cell_below hbw p2
            have hcall := IH.out kk hkk A2 c2 _ (.slice RA' (varsL (preL (t.f2.take kk)) (varStep l t)).length rc') wr hC2 hl2 hbw hrow (by
              have h1 := szL_le t.f2 kk hkk
              have h2 := HVL.out kk hk1
              have h3 := HSZ.out
              omega)
            have haft := fun w1 (hg1 : wr.grownBy w1 (Value.slice RA' (varsL (preL (t.f2.take kk)) (varStep l t)).length rc').ownBlock) => more_after hbw BXr hrow hg1
            have hnx := varsL_next t (varStep l t) kk hkk
            have HNX := Lib.hid hnx
            have HM2 := Aside0.mk HM.out
            clear hrow hgr hown hnx hC2 hl2 HM
            generalize t.f2[kk] = x at *
            generalize (varsL (preL (t.f2.take kk)) (varStep l t)).length = nl at *
            go_wp2_with (go_at_call 70; (with_reducible refine hcall.mono ?_); rintro e w1 ⟨v', rfl, hg1, hR1, ho1⟩; obtain ⟨hbz, b3z⟩ := haft w1 hg1)
            have hM3 : MoreAt w0 w t (some ap) c (.slice RA l.length rc) (varStep l t) (kk + 1) v' w1 := ⟨b3z, by rw [HNX.out]; exact hR1, HM2.out.gr.trans2 hg1 HM2.out.own, own_trans HM2.out.gr.size HM2.out.own ho1⟩
            clear hcall haft hg1 hR1 ho1 hbz b3z
            go_roundg (t.f2.length - kk - 1)
            case measure => omega
            case rel =>
              have hkb : kk < 1000000 := by have := HSZ.out; omega
              exact ⟨kk + 1, by omega, by omega, by simp <;> (unfold wrap64; omega), ⟨hM3⟩⟩
          · have q0 : decide (kk < t.f2.length) = false := decide_eq_false hkk
            obtain rfl : kk = t.f2.length := by omega
            clear hrow hgr hown hbw
            go_wp2
            go_ret
            exact HEND.out _ _ HM.out
end Go.Proofs.Ytgnklkmifcmlhaa.Q
