/- Proved here: the contract of types.nodes, ranged over. Conditions: those that each theorem names. -/
import Derived.Test.YtgnklkmifcmlhaaHKit
import Derived.Test.YtgnklkmifcmlhaaHCmp
import Derived.RangeFuncNested
import Derived.RangeFuncBound
import Derived.RangeFuncCalls
import Derived.RangeFuncLeaves
import Derived.Shelf.Abstract
import Derived.Shelf.RegionOpen
import Derived.OwnWalkIn
import Derived.TacticsInMore
import Derived.LoopNIn
import Derived.LoopIn
import Derived.Laws.EntriesVeiled
namespace Go.Proofs.Ytgnklkmifcmlhaa.Q
open Go.RowKit Go.Shelf Go.Proofs.YtgnklkmifcmlhaaW.PrintWords Go.Proofs.YtgnklkmifcmlhaaW.PrintMore
set_option linter.unusedVariables false
set_option linter.unusedSimpArgs false
attribute [local go_sem] Oper.semAt_some

/-! ### nodes: each node before its arguments -/
mutual
def preT : S25 → List S25
  | ⟨a, b, l⟩ => ⟨a, b, l⟩ :: preL l
def preL : List S25 → List S25
  | [] => []
  | x :: l => preT x ++ preL l
end
theorem preT_eq (t : S25) : preT t = t :: preL t.f2 := by cases t; simp [preT]
theorem preL_append : ∀ (l m : List S25), preL (l ++ m) = preL l ++ preL m
  | [], m => by simp [preL]
  | x :: l, m => by simp [preL, preL_append l m]
theorem szL_append : ∀ (l m : List S25), szL (l ++ m) = szL l + szL m
  | [], m => by simp [szL]
  | x :: l, m => by simp [szL, szL_append l m]; omega
theorem take_rd {α : Type} (l : List α) (z : α) (k : Nat) (h : k < l.length) : l.take (k + 1) = l.take k ++ [l.getD k z] := by
  rw [List.take_succ_eq_append_getElem h, List.getD_eq_getElem?_getD, List.getElem?_eq_getElem h]
  rfl
mutual
theorem preT_length : ∀ t : S25, (preT t).length = szT t
  | ⟨_, _, l⟩ => by simp [preT, szT, preL_length l]
theorem preL_length : ∀ l : List S25, (preL l).length = szL l
  | [] => by simp [preL, szL]
  | x :: l => by simp [preL, szL, preT_length x, preL_length l]
end
theorem szL_take_le (l : List S25) (k : Nat) (h : k < l.length) : szL (l.take k) + szT (l.getD k z25) ≤ szL l := by
  have h1 : l = l.take (k + 1) ++ l.drop (k + 1) := (List.take_append_drop _ _).symm
  have h2 := szL_append (l.take (k + 1)) (l.drop (k + 1))
  rw [← h1, take_rd l z25 k h, szL_append] at h2
  simp only [szL] at h2
  omega

theorem preL_child : ∀ (l : List S25) (x : S25), x ∈ l → ∀ y, y ∈ preT x → y ∈ preL l
  | a :: l, x, h, y, hy => by
    simp only [preL, List.mem_append]
    rcases List.mem_cons.1 h with rfl | h
    · exact .inl hy
    · exact .inr (preL_child l x h y hy)
theorem preT_child (t x : S25) (h : x ∈ t.f2) (y : S25) (hy : y ∈ preT x) : y ∈ preT t := by
  rw [preT_eq]
  exact List.mem_cons_of_mem _ (preL_child t.f2 x h y hy)

/-- A node, with where its arguments lie in w0. -/
abbrev NodeAt (w0 : World) (P : S25 → Prop) : Type := { p : S25 × Option Addr × Nat // (p.1.f2.length ≤ p.2.2 ∧ k25.C w0 p.2.1 p.1.f2.length p.1.f2) ∧ P p.1 }
abbrev encN {w0 : World} {P : S25 → Prop} (x : NodeAt w0 P) : Array Value := #[.agg #[.bool x.1.1.f0, .string x.1.1.f1, .slice x.1.2.1 x.1.1.f2.length x.1.2.2]]
abbrev treeN {w0 : World} {P : S25 → Prop} (ys : List (NodeAt w0 P)) : List S25 := ys.map (fun y => y.1.1)

/-- What a round keeps: what lay below n₀; and the variables of the iterator's own kinds. -/
def KpN (n₀ : Nat) (W W' : World) : Prop :=
  Below n₀ W W' ∧ ∀ (b : Nat) (cs : Array Value) (t : TypeId), (t = 25 ∨ t = 27) → W.heap[b]? = some (Obj.cells cs t (0, 0)) → W'.heap[b]? = some (Obj.cells cs t (0, 0))
theorem KpN.refl (n₀ : Nat) (W : World) : KpN n₀ W W := ⟨Below.refl _ _, fun _ _ _ _ h => h⟩
theorem KpN.trans {n₀ : Nat} {A B C : World} (h : KpN n₀ A B) (k : KpN n₀ B C) : KpN n₀ A C := ⟨h.1.trans k.1, fun b cs t ht hb => k.2 b cs t ht (h.2 b cs t ht hb)⟩
theorem KpN.alloc {n₀ : Nat} {A B : World} (h : KpN n₀ A B) (hn : n₀ ≤ A.heap.size) (o : Obj) : KpN n₀ A (B.alloc o) :=
  ⟨h.1.alloc (Nat.le_trans hn h.1.size) o, fun b cs t ht hb => blk_alloc (h.2 b cs t ht hb) o⟩
theorem KpN.of_below {n₀ : Nat} {A B : World} (hn : n₀ ≤ A.heap.size) (h : Below A.heap.size A B) : KpN n₀ A B := ⟨h.mono hn, fun b cs t _ hb => blk_below hb h⟩
theorem abides_alloc {β : Type} {B : Nat} {J : β → World → Prop} (h : AbidesFrom B J) {s : β} {W : World} (o : Obj) (hs : J s W) : J s (W.alloc o) := h s W _ none hs (World.grownBy_alloc W o none) (fun r e => by cases e)

set_option maxHeartbeats 1000000 in
set_option maxRecDepth 100000 in
theorem visit_in (F : Fence) (hd : F.depth = none) (hF : F.fn 107) (hro : F.round = none) (l N B : Nat) (w0 : World) (P : S25 → Prop) (J Jx : List (NodeAt w0 P) → World → Prop) (hJ : AbidesFrom B J)
    (hY : ∀ m pre x W, J pre W → pre.length < N → YieldAt F m Try.prog l (encN x) W fun e W' => (e = .returned (.bool true) ∧ J (pre ++ [x]) W' ∧ KpN w0.heap.size W W') ∨ (e = .returned (.bool false) ∧ Jx (pre ++ [x]) W'))
    (B1 B2 : Nat) : ∀ (k : Nat) (t : S25) (A : Option Addr) (c : Nat) (pre : List (NodeAt w0 P)) (W : World) (n : Nat), szT t ≤ k → (∀ y, y ∈ preT t → P y) → t.f2.length ≤ c → k25.C w0 A t.f2.length t.f2 → Below w0.heap.size w0 W → J pre W → pre.length + szT t ≤ N →
      W.heap[B1]? = some (.cells #[.func (.yield l) #[] #[]] 27 (0, 0)) → W.heap[B2]? = some (.cells #[.func (.func 107) #[] #[.pointer (some ⟨B1, 0, none⟩), .pointer (some ⟨B2, 0, none⟩)]] 27 (0, 0)) →
      CallsIn F n Try.prog 107 #[.agg #[.bool t.f0, .string t.f1, .slice A t.f2.length c], .pointer (some ⟨B1, 0, none⟩), .pointer (some ⟨B2, 0, none⟩)] W fun e W' =>
        (e = .returned (.bool true) ∧ (∃ ys, treeN ys = preT t ∧ J (pre ++ ys) W') ∧ KpN w0.heap.size W W') ∨ (e = .returned (.bool false) ∧ ∃ q, Jx q W') := by
  intro k
  induction k with
  | zero => intro t A c pre W n hk _; have := szT_pos t; omega
  | succ k ih =>
  intro t A c pre W n hk hP hc hC hb hJs hN h1 h2
  have hdd : ∀ k : Nat, (F.depth.isSome = true → 1 ≤ k) := fun k h => by rw [hd] at h; cases h
  have hnW : w0.heap.size ≤ W.heap.size := hb.size
  have b1 := box1 h1
  have b2 := box1 h2
  have l1 := blk_lt h1
  have l2 := blk_lt h2
  obtain ⟨b1c, _⟩ := b1
  obtain ⟨b2c, _⟩ := b2
  have BT := blk_new W (.cells #[.bool t.f0, .string t.f1, .slice A t.f2.length c] 25)
  obtain ⟨nd, hnd⟩ : ∃ nd : NodeAt w0 P, nd.1 = (t, A, c) := ⟨⟨(t, A, c), ⟨hc, hC⟩, hP t (by rw [preT_eq]; exact List.mem_cons_self)⟩, rfl⟩
  have hen : encN nd = #[.agg #[.bool t.f0, .string t.f1, .slice A t.f2.length c]] := by simp only [encN]; rw [hnd]
  obtain ⟨fn, tmps, assign, body, hy, hR⟩ := hY (n - 1) pre nd (W.alloc (.cells #[.bool t.f0, .string t.f1, .slice A t.f2.length c] 25)) (abides_alloc hJ _ hJs) (by have := szT_pos t; omega)
  have HK := Aside0.mk ih
  have HP := Aside0.mk hP
  have HT := Aside0.mk hC
  have HB := Aside0.mk hb
  have HJ := Aside0.mk hJ
  have HY := Aside0.mk hY
  have HBT := Aside0.mk BT
  have H1 := Aside0.mk h1
  have H2 := Aside0.mk h2
  clear ih hP hC hb hJs hJ hY BT h1 h2
  rw [hen] at hy
  have HN := Lib.hid hnd
  clear hnd hen
  refine callsIn_of_wp Try.func107 rfl hF ?_ hro
  simp only [Try.ntmps107, List.size_toArray, List.length_cons, List.length_nil, Nat.reduceAdd, Nat.reduceSub, Array.replicate_succ, Array.replicate_zero, List.push_toArray, List.append_toArray, List.nil_append, List.cons_append]
  gi_wp2
  refine hR.mono ?_
  rintro e W1 (⟨rfl, hJ1, hk1⟩ | ⟨rfl, hJx1⟩)
  · have BT1 := hk1.2 _ _ _ (.inl rfl) HBT.out
    have h1' := hk1.2 _ _ _ (.inr rfl) (blk_alloc H1.out _)
    have h2' := hk1.2 _ _ _ (.inr rfl) (blk_alloc H2.out _)
    obtain ⟨c0, c1, c2, _, _, _⟩ := box3 BT1
    have hkW : KpN w0.heap.size W W1 := ⟨((below_one _).mono hnW).trans hk1.1, fun b cs t ht hb => hk1.2 b cs t ht (blk_alloc hb _)⟩
    have HK1 := Aside0.mk hkW
    have H1' := Aside0.mk h1'
    have H2' := Aside0.mk h2'
    have HJ1 := Aside0.mk hJ1
    have hm := HT.out.2.1
    clear hkW h1' h2' hJ1 hk1 BT1 hR hy
    gi_wp2
    gi_loopw [6, 14] (fun _ s14 wr => ∃ kk : Nat, kk ≤ t.f2.length ∧ s14 = .int .i64 kk ∧ Aside0 (∃ ys, treeN ys = preL (t.f2.take kk) ∧ J (pre ++ nd :: ys) wr) ∧ Aside0 (KpN w0.heap.size W1 wr)) (fun _ s14 _ => t.f2.length - (intOf s14).toNat)
    case atStart => exact ⟨0, Nat.zero_le _, rfl, ⟨[], by simp [preL], by simpa using HJ1.out⟩, ⟨KpN.refl _ _⟩⟩
    case round =>
      obtain ⟨kk, hkk, rfl, HA, HW⟩ := hrel
      by_cases hlt : kk < t.f2.length
      · have hltz : (kk : Int) < (t.f2.length : Int) := by omega
        obtain ⟨ad, A2, d2, e1, hx0, hx1, hx2, hl2, hi2⟩ := at_T25 HT.out (kk : Int) (by omega) hltz
        cases e1
        simp only [Int.toNat_natCast] at hx0 hx1 hx2
        have hBr : Below w0.heap.size w0 wr := (HB.out.trans HK1.out.1).trans HW.out.1
        replace hx0 := pw_cell_below hBr hx0
        replace hx1 := pw_cell_below hBr hx1
        replace hx2 := pw_cell_below hBr hx2
        have hnr : w0.heap.size ≤ wr.heap.size := hBr.size
        have h1r := HW.out.2 _ _ _ (.inr rfl) H1'.out
        have h2r := HW.out.2 _ _ _ (.inr rfl) H2'.out
        have l1r := blk_lt h1r
        have l2r := blk_lt h2r
        obtain ⟨b1r, _⟩ := box1 h1r
        obtain ⟨b2r, _⟩ := box1 h2r
        obtain ⟨ys, hy1, hy2⟩ := HA.out
        have hlen : ys.length = szL (t.f2.take kk) := by rw [← preL_length, ← hy1]; simp
        have hX : rd_T25 t.f2 kk = t.f2.getD kk z25 := rfl
        have hsz := szL_take_le t.f2 kk hlt
        have htk := take_rd t.f2 z25 kk hlt
        rw [← hX] at hsz htk
        have hst := szT_eq t
        have HX0 := Lib.hid hX
        generalize rd_T25 t.f2 kk = x at *
        have hcall := HK.out x A2 d2 (pre ++ nd :: ys) (wr.alloc (.cells #[.bool x.f0, .string x.f1, .slice A2 x.f2.length d2] 25)) (n - 1) (by omega) (fun y hy => HP.out y (preT_child t x (by rw [HX0.out]; exact getD_mem _ _ kk hlt) y hy)) hl2 hi2 (hBr.alloc hnr _) (abides_alloc HJ.out _ hy2) (by simp; omega) (blk_alloc h1r _) (blk_alloc h2r _)
        have HY1 := Lib.hid hy1
        have HTK := Lib.hid htk
        have HSZ := Lib.hid hlen
        clear hX hsz htk hlen hy1 hy2 HA hst hl2 hi2 h1r h2r
        gi_wp2_with ((try refine ⟨hdd _, ?_⟩); gi_at_call 107; refine hcall.mono ?_; clear hcall; rintro e W3 (⟨rfl, ⟨zs, hz1, hz2⟩, hk3⟩ | ⟨rfl, q, hx3⟩))
        · have HZ1 := Lib.hid hz1
          clear hz1
          go_roundw
          case rel =>
            refine ⟨kk + 1, by omega, by go_num, ⟨ys ++ zs, ?_, by simpa using hz2⟩, ⟨HW.out.trans ⟨((below_one _).mono hnr).trans hk3.1, fun b cs t ht hb => hk3.2 b cs t ht (blk_alloc hb _)⟩⟩⟩
            rw [HTK.out, preL_append, ← HY1.out]
            simp [preL, ← HZ1.out]
          case measure => simp [intOf]; omega
        · gi_wp2
          go_ret
          exact .inr ⟨rfl, q, hx3⟩
      · have hltz : ¬ (kk : Int) < (t.f2.length : Int) := by omega
        gi_wp2
        go_ret
        obtain ⟨ys, hy1, hy2⟩ := HA.out
        refine .inl ⟨rfl, ⟨nd :: ys, ?_, hy2⟩, HK1.out.trans HW.out⟩
        show nd.1.1 :: treeN ys = _
        rw [preT_eq, show nd.1.1 = t by rw [HN.out], hy1, List.take_of_length_le (by omega)]
  · gi_wp2
    go_ret
    exact .inr ⟨rfl, _, hJx1⟩

theorem cells_own {β : Type} (b : Nat) (cs : Array Value) (t : TypeId) (B : Nat) : OwnFrom B (fun (_ : β) W => W.heap[b]? = some (Obj.cells cs t (0, 0))) := fun _ X Y row hs hg hr => by
  refine (hg.block b (blk_lt hs) (fun e => ?_)).trans hs
  obtain ⟨_, o, ho, hc⟩ := hr b e.symm
  rw [hs] at ho
  cases ho
  cases hc
theorem keepsFrom_below {B : Nat} {W W' : World} (h : Below W.heap.size W W') : KeepsFrom B W W' := ⟨h.size, fun k o _ hk _ => blk_below hk h⟩
theorem keepsFrom_set {B : Nat} (W : World) (a : Addr) (v : Value) : KeepsFrom B W (W.setCell a v) := (KeepsOthers.setCell W a v).from B
theorem keepsFrom_drewN {B : Nat} (W : World) (n : Nat) : KeepsFrom B W (W.drewN n) := ⟨Nat.le_refl _, fun _ _ _ h _ => h⟩
theorem KpN.set {n₀ : Nat} {A B : World} (h : KpN n₀ A B) {g : Nat} {t : TypeId} {cs : Array Value} (hg : n₀ ≤ g) (hB : B.heap[g]? = some (.cells cs t (0, 0))) (h1 : t ≠ 25) (h2 : t ≠ 27) (j : Nat) (v : Value) : KpN n₀ A (B.setCell ⟨g, j, none⟩ v) :=
  ⟨h.1.setCell hg _, fun b ds u hu hb => blk_far (h.2 b ds u hu hb) (by
    rintro rfl
    have hb2 := h.2 _ ds u hu hb
    rw [hB] at hb2
    cases hb2
    rcases hu with hu | hu
    · exact h1 hu
    · exact h2 hu) v⟩

theorem room_any {F : Fence} (hd : F.depth = none) (k : Nat) : F.room k := fun d h => by rw [hd] at h; cases h
theorem yield_any {F : Fence} (hd : F.depth = none) {m : Nat} (m' : Nat) {P : Program} {l : Nat} {args : Array Value} {W : World} {R : Ending → World → Prop} (h : YieldAt F m P l args W R) : YieldAt F m' P l args W R := by
  obtain ⟨fn, tmps, assign, body, hy, hR⟩ := h
  exact ⟨fn, tmps, assign, body, hy, ⟨hR.1, fun c cs _ => hR.2 c cs (room_any hd _)⟩⟩

set_option maxHeartbeats 1000000 in
set_option maxRecDepth 100000 in
/-- What nodes hands back: all nodes of the type, each before its arguments. -/
theorem nodes_stops (F : Fence) (hd : F.depth = none) (n : Nat) (h1 : F.fn 106) (h2 : F.fn 107) (hro : F.round = none) (Bt : Nat) (t : S25) (A : Option Addr) (c : Nat) (wT w : World) (hT : Below wT.heap.size wT w) (P : S25 → Prop) (hP : ∀ y, y ∈ preT t → P y)
    (hB : w.heap[Bt]? = some (.cells #[.bool t.f0, .string t.f1, .slice A t.f2.length c] 25 (0, 0))) (hc : t.f2.length ≤ c) (hC : k25.C wT A t.f2.length t.f2) :
    SeqStopsK F n Try.prog 106 #[.pointer (some ⟨Bt, 0, none⟩)] (encN (w0 := wT) (P := P)) (KpN wT.heap.size) (fun ys => treeN ys = preT t) (fun _ => True) (szT t) w := by
  intro l J Jx W hW hJ hJx hY h0
  have hdd : ∀ k : Nat, (F.depth.isSome = true → 1 ≤ k) := fun k h => by rw [hd] at h; cases h
  have hv := visit_in F hd h2 hro l (szT t) W.heap.size wT P J Jx hJ (fun m pre x W1 hj hl => yield_any hd m (hY pre x W1 hj hl)) W.heap.size (W.heap.size + 1) (szT t) t A c []
    ((W.alloc (.cells #[.func (.yield l) #[] #[]] 27)).alloc (.cells #[.func (.func 107) #[] #[.pointer (some ⟨W.heap.size, 0, none⟩), .pointer (some ⟨W.heap.size + 1, 0, none⟩)]] 27))
    (n - 1) (Nat.le_refl _) hP hc hC ((below_step hT hW).trans ((below_two _ _).mono (Nat.le_trans hT.size hW.size))) (abides_alloc hJ _ (abides_alloc hJ _ h0)) (by simp) (blk_mid _ _) (blk_top _ _)
  have hT' := hT
  clear hT
  obtain ⟨c0, c1, c2, _, _, _⟩ := box3 (blk_below hB hW)
  have lB := blk_lt (blk_below hB hW)
  clear hY hJ hJx h0 hB hC hW hT'
  show CallsIn F n Try.prog 106 #[.func (.yield l) #[] #[], .pointer (some ⟨Bt, 0, none⟩)] W _
  refine callsIn_of_wp Try.func106 rfl h1 ?_ hro
  simp only [Try.ntmps106, List.size_toArray, List.length_cons, List.length_nil, Nat.reduceAdd, Nat.reduceSub, Array.replicate_succ, Array.replicate_zero, List.push_toArray, List.append_toArray, List.nil_append, List.cons_append]
  gi_wp2_with ((try refine ⟨hdd _, ?_⟩); gi_at_call 107; refine hv.mono ?_; clear hv; rintro e W3 (⟨rfl, ⟨zs, hz1, hz2⟩, hk3⟩ | ⟨rfl, q, hx3⟩))
  · go_end0
    exact ⟨⟨_, rfl⟩, .inl ⟨zs, hz1, by simpa using hz2⟩⟩
  · go_end0
    exact ⟨⟨_, rfl⟩, .inr ⟨q, trivial, hx3⟩⟩

set_option maxHeartbeats 1000000 in
/-- nodes(t): the argument is boxed; the function value captures the box. -/
theorem nodes_in (F : Fence) (n : Nat) (h : F.fn 68) (hro : F.round = none) (a b c : Value) (w : World) :
    CallsIn F n Try.prog 68 #[.agg #[a, b, c]] w fun e w' => e = .returned (.func (.func 106) #[] #[.pointer (some ⟨w.heap.size, 0, none⟩)]) ∧ w' = w.alloc (.cells #[a, b, c] 25) := by
  refine callsIn_of_wp Try.func68 rfl h ?_ hro
  simp only [Try.ntmps68, List.size_toArray, List.length_cons, List.length_nil, Nat.reduceAdd, Nat.reduceSub, Array.replicate_succ, Array.replicate_zero, List.push_toArray, List.append_toArray, List.nil_append, List.cons_append]
  gi_wp2
  go_ret
  exact ⟨rfl, rfl⟩
end Go.Proofs.Ytgnklkmifcmlhaa.Q
