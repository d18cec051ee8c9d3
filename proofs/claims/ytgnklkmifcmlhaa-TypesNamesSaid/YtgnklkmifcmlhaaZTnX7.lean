/- Proved here: parts of the proof of a given statement (HRowTypesNames): contracts of the functions that it reaches, what they answer, and in the last text the statement itself. Conditions: those that each theorem names. -/
import Derived.Test.YtgnklkmifcmlhaaZTnX4
import Derived.Test.YtgnklkmifcmlhaaZTnX6
import Derived.RangeFuncNested
import Derived.RangeFuncBound
import Derived.RangeFuncCalls
import Derived.RangeFuncLeaves
import Derived.Shelf.Abstract
import Derived.Shelf.RegionOpen
import Derived.OwnWalkIn
import Derived.TacticsInMore
import Derived.LoopNIn
import Derived.LoopIn
import Derived.Laws.EntriesVeiled
import Derived.Test.YtgnklkmifcmlhaaZTnX3
import Derived.Maps.AppendAt
import Derived.Deep.AppendLies
/- Proved here: the contract of types.nodes, ranged over. Conditions: those that each theorem names. -/
namespace Go.Proofs.Ytgnklkmifcmlhaa.Q
open Go.RowKit Go.Shelf Go.Proofs.YtgnklkmifcmlhaaW.PrintWords Go.Proofs.YtgnklkmifcmlhaaW.PrintMore
set_option linter.unusedVariables false
set_option linter.unusedSimpArgs false
attribute [local go_sem] Oper.semAt_some

/-! ### nodes: each node before its arguments -/
mutual
def preT : S25 → List S25
  | ⟨a, b, l⟩ => ⟨a, b, l⟩ :: preL l
def preL : List S25 → List S25
  | [] => []
  | x :: l => preT x ++ preL l
end
theorem preT_eq (t : S25) : preT t = t :: preL t.f2 := by cases t; simp [preT]
theorem preL_append : ∀ (l m : List S25), preL (l ++ m) = preL l ++ preL m
  | [], m => by simp [preL]
  | x :: l, m => by simp [preL, preL_append l m]
theorem szL_append : ∀ (l m : List S25), szL (l ++ m) = szL l + szL m
  | [], m => by simp [szL]
  | x :: l, m => by simp [szL, szL_append l m]; omega
theorem take_rd {α : Type} (l : List α) (z : α) (k : Nat) (h : k < l.length) : l.take (k + 1) = l.take k ++ [l.getD k z] := by
  rw [List.take_succ_eq_append_getElem h, List.getD_eq_getElem?_getD, List.getElem?_eq_getElem h]
  rfl
mutual
theorem preT_length : ∀ t : S25, (preT t).length = szT t
  | ⟨_, _, l⟩ => by simp [preT, szT, preL_length l]
theorem preL_length : ∀ l : List S25, (preL l).length = szL l
  | [] => by simp [preL, szL]
  | x :: l => by simp [preL, szL, preT_length x, preL_length l]
end
theorem szL_take_le (l : List S25) (k : Nat) (h : k < l.length) : szL (l.take k) + szT (l.getD k z25) ≤ szL l := by
  have h1 : l = l.take (k + 1) ++ l.drop (k + 1) := (List.take_append_drop _ _).symm
  have h2 := szL_append (l.take (k + 1)) (l.drop (k + 1))
  rw [← h1, take_rd l z25 k h, szL_append] at h2
  simp only [szL] at h2
  omega

theorem preL_child : ∀ (l : List S25) (x : S25), x ∈ l → ∀ y, y ∈ preT x → y ∈ preL l
  | a :: l, x, h, y, hy => by
    simp only [preL, List.mem_append]
    rcases List.mem_cons.1 h with rfl | h
    · exact .inl hy
    · exact .inr (preL_child l x h y hy)
theorem preT_child (t x : S25) (h : x ∈ t.f2) (y : S25) (hy : y ∈ preT x) : y ∈ preT t := by
  rw [preT_eq]
  exact List.mem_cons_of_mem _ (preL_child t.f2 x h y hy)

/-- A node, with where its arguments lie in w0. -/
abbrev NodeAt (w0 : World) (P : S25 → Prop) : Type := { p : S25 × Option Addr × Nat // (p.1.f2.length ≤ p.2.2 ∧ k25.C w0 p.2.1 p.1.f2.length p.1.f2) ∧ P p.1 }
abbrev encN {w0 : World} {P : S25 → Prop} (x : NodeAt w0 P) : Array Value := #[.agg #[.bool x.1.1.f0, .string x.1.1.f1, .slice x.1.2.1 x.1.1.f2.length x.1.2.2]]
abbrev treeN {w0 : World} {P : S25 → Prop} (ys : List (NodeAt w0 P)) : List S25 := ys.map (fun y => y.1.1)

/-- What a round keeps: what lay below n₀; and the variables of the iterator's own kinds. -/
def KpN (n₀ : Nat) (W W' : World) : Prop :=
  Below n₀ W W' ∧ ∀ (b : Nat) (cs : Array Value) (t : TypeId), (t = 25 ∨ t = 27) → W.heap[b]? = some (Obj.cells cs t (0, 0)) → W'.heap[b]? = some (Obj.cells cs t (0, 0))
theorem KpN.refl (n₀ : Nat) (W : World) : KpN n₀ W W := ⟨Below.refl _ _, fun _ _ _ _ h => h⟩
theorem KpN.trans {n₀ : Nat} {A B C : World} (h : KpN n₀ A B) (k : KpN n₀ B C) : KpN n₀ A C := ⟨h.1.trans k.1, fun b cs t ht hb => k.2 b cs t ht (h.2 b cs t ht hb)⟩
theorem KpN.alloc {n₀ : Nat} {A B : World} (h : KpN n₀ A B) (hn : n₀ ≤ A.heap.size) (o : Obj) : KpN n₀ A (B.alloc o) :=
  ⟨h.1.alloc (Nat.le_trans hn h.1.size) o, fun b cs t ht hb => blk_alloc (h.2 b cs t ht hb) o⟩
theorem KpN.of_below {n₀ : Nat} {A B : World} (hn : n₀ ≤ A.heap.size) (h : Below A.heap.size A B) : KpN n₀ A B := ⟨h.mono hn, fun b cs t _ hb => blk_below hb h⟩
theorem abides_alloc {β : Type} {B : Nat} {J : β → World → Prop} (h : AbidesFrom B J) {s : β} {W : World} (o : Obj) (hs : J s W) : J s (W.alloc o) := h s W _ none hs (World.grownBy_alloc W o none) (fun r e => by cases e)

set_option maxHeartbeats 1000000 in
set_option maxRecDepth 100000 in
theorem visit_in (F : Fence) (hd : F.depth = none) (hF : F.fn 107) (hro : F.round = none) (l N B : Nat) (w0 : World) (P : S25 → Prop) (J Jx : List (NodeAt w0 P) → World → Prop) (hJ : AbidesFrom B J)
    (hY : ∀ m pre x W, J pre W → pre.length < N → YieldAt F m Try.prog l (encN x) W fun e W' => (e = .returned (.bool true) ∧ J (pre ++ [x]) W' ∧ KpN w0.heap.size W W') ∨ (e = .returned (.bool false) ∧ Jx (pre ++ [x]) W'))
    (B1 B2 : Nat) : ∀ (k : Nat) (t : S25) (A : Option Addr) (c : Nat) (pre : List (NodeAt w0 P)) (W : World) (n : Nat), szT t ≤ k → (∀ y, y ∈ preT t → P y) → t.f2.length ≤ c → k25.C w0 A t.f2.length t.f2 → Below w0.heap.size w0 W → J pre W → pre.length + szT t ≤ N →
      W.heap[B1]? = some (.cells #[.func (.yield l) #[] #[]] 27 (0, 0)) → W.heap[B2]? = some (.cells #[.func (.func 107) #[] #[.pointer (some ⟨B1, 0, none⟩), .pointer (some ⟨B2, 0, none⟩)]] 27 (0, 0)) →
      CallsIn F n Try.prog 107 #[.agg #[.bool t.f0, .string t.f1, .slice A t.f2.length c], .pointer (some ⟨B1, 0, none⟩), .pointer (some ⟨B2, 0, none⟩)] W fun e W' =>
        (e = .returned (.bool true) ∧ (∃ ys, treeN ys = preT t ∧ J (pre ++ ys) W') ∧ KpN w0.heap.size W W') ∨ (e = .returned (.bool false) ∧ ∃ q, Jx q W') := by
  intro k
  induction k with
  | zero => intro t A c pre W n hk _; have := szT_pos t; omega
  | succ k ih =>
  intro t A c pre W n hk hP hc hC hb hJs hN h1 h2
  have hdd : ∀ k : Nat, (F.depth.isSome = true → 1 ≤ k) := fun k h => by rw [hd] at h; cases h
  have hnW : w0.heap.size ≤ W.heap.size := hb.size
  have b1 := box1 h1
  have b2 := box1 h2
  have l1 := blk_lt h1
  have l2 := blk_lt h2
  obtain ⟨b1c, _⟩ := b1
  obtain ⟨b2c, _⟩ := b2
  have BT := blk_new W (.cells #[.bool t.f0, .string t.f1, .slice A t.f2.length c] 25)
  obtain ⟨nd, hnd⟩ : ∃ nd : NodeAt w0 P, nd.1 = (t, A, c) := ⟨⟨(t, A, c), ⟨hc, hC⟩, hP t (by rw [preT_eq]; exact List.mem_cons_self)⟩, rfl⟩
  have hen : encN nd = #[.agg #[.bool t.f0, .string t.f1, .slice A t.f2.length c]] := by simp only [encN]; rw [hnd]
  obtain ⟨fn, tmps, assign, body, hy, hR⟩ := hY (n - 1) pre nd (W.alloc (.cells #[.bool t.f0, .string t.f1, .slice A t.f2.length c] 25)) (abides_alloc hJ _ hJs) (by have := szT_pos t; omega)
  have HK := Aside0.mk ih
  have HP := Aside0.mk hP
  have HT := Aside0.mk hC
  have HB := Aside0.mk hb
  have HJ := Aside0.mk hJ
  have HY := Aside0.mk hY
  have HBT := Aside0.mk BT
  have H1 := Aside0.mk h1
  have H2 := Aside0.mk h2
  clear ih hP hC hb hJs hJ hY BT h1 h2
  rw [hen] at hy
  have HN := Lib.hid hnd
  clear hnd hen
  refine callsIn_of_wp Try.func107 rfl hF ?_ hro
  simp only [Try.ntmps107, List.size_toArray, List.length_cons, List.length_nil, Nat.reduceAdd, Nat.reduceSub, Array.replicate_succ, Array.replicate_zero, List.push_toArray, List.append_toArray, List.nil_append, List.cons_append]
  gi_wp2
  refine hR.mono ?_
  rintro e W1 (⟨rfl, hJ1, hk1⟩ | ⟨rfl, hJx1⟩)
  · have BT1 := hk1.2 _ _ _ (.inl rfl) HBT.out
    have h1' := hk1.2 _ _ _ (.inr rfl) (blk_alloc H1.out _)
    have h2' := hk1.2 _ _ _ (.inr rfl) (blk_alloc H2.out _)
    obtain ⟨c0, c1, c2, _, _, _⟩ := box3 BT1
    have hkW : KpN w0.heap.size W W1 := ⟨((below_one _).mono hnW).trans hk1.1, fun b cs t ht hb => hk1.2 b cs t ht (blk_alloc hb _)⟩
    have HK1 := Aside0.mk hkW
    have H1' := Aside0.mk h1'
    have H2' := Aside0.mk h2'
    have HJ1 := Aside0.mk hJ1
    have hm := HT.out.2.1
    clear hkW h1' h2' hJ1 hk1 BT1 hR hy
    gi_wp2
    gi_loopw [6, 14] (fun _ s14 wr => ∃ kk : Nat, kk ≤ t.f2.length ∧ s14 = .int .i64 kk ∧ Aside0 (∃ ys, treeN ys = preL (t.f2.take kk) ∧ J (pre ++ nd :: ys) wr) ∧ Aside0 (KpN w0.heap.size W1 wr)) (fun _ s14 _ => t.f2.length - (intOf s14).toNat)
    case atStart => exact ⟨0, Nat.zero_le _, rfl, ⟨[], by simp [preL], by simpa using HJ1.out⟩, ⟨KpN.refl _ _⟩⟩
    case round =>
      obtain ⟨kk, hkk, rfl, HA, HW⟩ := hrel
      by_cases hlt : kk < t.f2.length
      · have hltz : (kk : Int) < (t.f2.length : Int) := by omega
        obtain ⟨ad, A2, d2, e1, hx0, hx1, hx2, hl2, hi2⟩ := at_T25 HT.out (kk : Int) (by omega) hltz
        cases e1
        simp only [Int.toNat_natCast] at hx0 hx1 hx2
        have hBr : Below w0.heap.size w0 wr := (HB.out.trans HK1.out.1).trans HW.out.1
        replace hx0 := pw_cell_below hBr hx0
        replace hx1 := pw_cell_below hBr hx1
        replace hx2 := pw_cell_below hBr hx2
        have hnr : w0.heap.size ≤ wr.heap.size := hBr.size
        have h1r := HW.out.2 _ _ _ (.inr rfl) H1'.out
        have h2r := HW.out.2 _ _ _ (.inr rfl) H2'.out
        have l1r := blk_lt h1r
        have l2r := blk_lt h2r
        obtain ⟨b1r, _⟩ := box1 h1r
        obtain ⟨b2r, _⟩ := box1 h2r
        obtain ⟨ys, hy1, hy2⟩ := HA.out
        have hlen : ys.length = szL (t.f2.take kk) := by rw [← preL_length, ← hy1]; simp
        have hX : rd_T25 t.f2 kk = t.f2.getD kk z25 := rfl
        have hsz := szL_take_le t.f2 kk hlt
        have htk := take_rd t.f2 z25 kk hlt
        rw [← hX] at hsz htk
        have hst := szT_eq t
        have HX0 := Lib.hid hX
        generalize rd_T25 t.f2 kk = x at *
        have hcall := HK.out x A2 d2 (pre ++ nd :: ys) (wr.alloc (.cells #[.bool x.f0, .string x.f1, .slice A2 x.f2.length d2] 25)) (n - 1) (by omega) (fun y hy => HP.out y (preT_child t x (by rw [HX0.out]; exact getD_mem _ _ kk hlt) y hy)) hl2 hi2 (hBr.alloc hnr _) (abides_alloc HJ.out _ hy2) (by simp; omega) (blk_alloc h1r _) (blk_alloc h2r _)
        have HY1 := Lib.hid hy1
        have HTK := Lib.hid htk
        have HSZ := Lib.hid hlen
        clear hX hsz htk hlen hy1 hy2 HA hst hl2 hi2 h1r h2r
        gi_wp2_with ((try refine ⟨hdd _, ?_⟩); gi_at_call 107; refine hcall.mono ?_; clear hcall; rintro e W3 (⟨rfl, ⟨zs, hz1, hz2⟩, hk3⟩ | ⟨rfl, q, hx3⟩))
        · have HZ1 := Lib.hid hz1
          clear hz1
          go_roundw
          case rel =>
            refine ⟨kk + 1, by omega, by go_num, ⟨ys ++ zs, ?_, by simpa using hz2⟩, ⟨HW.out.trans ⟨((below_one _).mono hnr).trans hk3.1, fun b cs t ht hb => hk3.2 b cs t ht (blk_alloc hb _)⟩⟩⟩
            rw [HTK.out, preL_append, ← HY1.out]
            simp [preL, ← HZ1.out]
          case measure => simp [intOf]; omega
        · gi_wp2
          go_ret
          exact .inr ⟨rfl, q, hx3⟩
      · have hltz : ¬ (kk : Int) < (t.f2.length : Int) := by omega
        gi_wp2
        go_ret
        obtain ⟨ys, hy1, hy2⟩ := HA.out
        refine .inl ⟨rfl, ⟨nd :: ys, ?_, hy2⟩, HK1.out.trans HW.out⟩
        show nd.1.1 :: treeN ys = _
        rw [preT_eq, show nd.1.1 = t by rw [HN.out], hy1, List.take_of_length_le (by omega)]
  · gi_wp2
    go_ret
    exact .inr ⟨rfl, _, hJx1⟩

theorem cells_own {β : Type} (b : Nat) (cs : Array Value) (t : TypeId) (B : Nat) : OwnFrom B (fun (_ : β) W => W.heap[b]? = some (Obj.cells cs t (0, 0))) := fun _ X Y row hs hg hr => by
  refine (hg.block b (blk_lt hs) (fun e => ?_)).trans hs
  obtain ⟨_, o, ho, hc⟩ := hr b e.symm
  rw [hs] at ho
  cases ho
  cases hc
theorem keepsFrom_below {B : Nat} {W W' : World} (h : Below W.heap.size W W') : KeepsFrom B W W' := ⟨h.size, fun k o _ hk _ => blk_below hk h⟩
theorem keepsFrom_set {B : Nat} (W : World) (a : Addr) (v : Value) : KeepsFrom B W (W.setCell a v) := (KeepsOthers.setCell W a v).from B
theorem keepsFrom_drewN {B : Nat} (W : World) (n : Nat) : KeepsFrom B W (W.drewN n) := ⟨Nat.le_refl _, fun _ _ _ h _ => h⟩
theorem KpN.set {n₀ : Nat} {A B : World} (h : KpN n₀ A B) {g : Nat} {t : TypeId} {cs : Array Value} (hg : n₀ ≤ g) (hB : B.heap[g]? = some (.cells cs t (0, 0))) (h1 : t ≠ 25) (h2 : t ≠ 27) (j : Nat) (v : Value) : KpN n₀ A (B.setCell ⟨g, j, none⟩ v) :=
  ⟨h.1.setCell hg _, fun b ds u hu hb => blk_far (h.2 b ds u hu hb) (by
    rintro rfl
    have hb2 := h.2 _ ds u hu hb
    rw [hB] at hb2
    cases hb2
    rcases hu with hu | hu
    · exact h1 hu
    · exact h2 hu) v⟩

theorem room_any {F : Fence} (hd : F.depth = none) (k : Nat) : F.room k := fun d h => by rw [hd] at h; cases h
theorem yield_any {F : Fence} (hd : F.depth = none) {m : Nat} (m' : Nat) {P : Program} {l : Nat} {args : Array Value} {W : World} {R : Ending → World → Prop} (h : YieldAt F m P l args W R) : YieldAt F m' P l args W R := by
  obtain ⟨fn, tmps, assign, body, hy, hR⟩ := h
  exact ⟨fn, tmps, assign, body, hy, ⟨hR.1, fun c cs _ => hR.2 c cs (room_any hd _)⟩⟩

set_option maxHeartbeats 1000000 in
set_option maxRecDepth 100000 in
/-- What nodes hands back: all nodes of the type, each before its arguments. -/
theorem nodes_stops (F : Fence) (hd : F.depth = none) (n : Nat) (h1 : F.fn 106) (h2 : F.fn 107) (hro : F.round = none) (Bt : Nat) (t : S25) (A : Option Addr) (c : Nat) (wT w : World) (hT : Below wT.heap.size wT w) (P : S25 → Prop) (hP : ∀ y, y ∈ preT t → P y)
    (hB : w.heap[Bt]? = some (.cells #[.bool t.f0, .string t.f1, .slice A t.f2.length c] 25 (0, 0))) (hc : t.f2.length ≤ c) (hC : k25.C wT A t.f2.length t.f2) :
    SeqStopsK F n Try.prog 106 #[.pointer (some ⟨Bt, 0, none⟩)] (encN (w0 := wT) (P := P)) (KpN wT.heap.size) (fun ys => treeN ys = preT t) (fun _ => True) (szT t) w := by
  intro l J Jx W hW hJ hJx hY h0
  have hdd : ∀ k : Nat, (F.depth.isSome = true → 1 ≤ k) := fun k h => by rw [hd] at h; cases h
  have hv := visit_in F hd h2 hro l (szT t) W.heap.size wT P J Jx hJ (fun m pre x W1 hj hl => yield_any hd m (hY pre x W1 hj hl)) W.heap.size (W.heap.size + 1) (szT t) t A c []
    ((W.alloc (.cells #[.func (.yield l) #[] #[]] 27)).alloc (.cells #[.func (.func 107) #[] #[.pointer (some ⟨W.heap.size, 0, none⟩), .pointer (some ⟨W.heap.size + 1, 0, none⟩)]] 27))
    (n - 1) (Nat.le_refl _) hP hc hC ((below_step hT hW).trans ((below_two _ _).mono (Nat.le_trans hT.size hW.size))) (abides_alloc hJ _ (abides_alloc hJ _ h0)) (by simp) (blk_mid _ _) (blk_top _ _)
  have hT' := hT
  clear hT
  obtain ⟨c0, c1, c2, _, _, _⟩ := box3 (blk_below hB hW)
  have lB := blk_lt (blk_below hB hW)
  clear hY hJ hJx h0 hB hC hW hT'
  show CallsIn F n Try.prog 106 #[.func (.yield l) #[] #[], .pointer (some ⟨Bt, 0, none⟩)] W _
  refine callsIn_of_wp Try.func106 rfl h1 ?_ hro
  simp only [Try.ntmps106, List.size_toArray, List.length_cons, List.length_nil, Nat.reduceAdd, Nat.reduceSub, Array.replicate_succ, Array.replicate_zero, List.push_toArray, List.append_toArray, List.nil_append, List.cons_append]
  gi_wp2_with ((try refine ⟨hdd _, ?_⟩); gi_at_call 107; refine hv.mono ?_; clear hv; rintro e W3 (⟨rfl, ⟨zs, hz1, hz2⟩, hk3⟩ | ⟨rfl, q, hx3⟩))
  · go_end0
    exact ⟨⟨_, rfl⟩, .inl ⟨zs, hz1, by simpa using hz2⟩⟩
  · go_end0
    exact ⟨⟨_, rfl⟩, .inr ⟨q, trivial, hx3⟩⟩

set_option maxHeartbeats 1000000 in
/-- nodes(t): the argument is boxed; the function value captures the box. -/
theorem nodes_in (F : Fence) (n : Nat) (h : F.fn 68) (hro : F.round = none) (a b c : Value) (w : World) :
    CallsIn F n Try.prog 68 #[.agg #[a, b, c]] w fun e w' => e = .returned (.func (.func 106) #[] #[.pointer (some ⟨w.heap.size, 0, none⟩)]) ∧ w' = w.alloc (.cells #[a, b, c] 25) := by
  refine callsIn_of_wp Try.func68 rfl h ?_ hro
  simp only [Try.ntmps68, List.size_toArray, List.length_cons, List.length_nil, Nat.reduceAdd, Nat.reduceSub, Array.replicate_succ, Array.replicate_zero, List.push_toArray, List.append_toArray, List.nil_append, List.cons_append]
  gi_wp2
  go_ret
  exact ⟨rfl, rfl⟩
end Go.Proofs.Ytgnklkmifcmlhaa.Q
/- Proved here: the contract of types.Vars. Conditions: those that each theorem names. -/
namespace Go.Proofs.Ytgnklkmifcmlhaa.Q
open Go.RowKit Go.Shelf Go.Proofs.YtgnklkmifcmlhaaW.PrintWords Go.Proofs.YtgnklkmifcmlhaaW.PrintMore
set_option linter.unusedVariables false
set_option linter.unusedSimpArgs false
attribute [local go_sem] Oper.semAt_some

/-! ### Vars -/
theorem info_str : (Try.prog.info? 9).map (fun i => (i.zero, i.size, i.bytes)) = some (some (.string ⟨#[]⟩), 1, 16) := by kernel_rfl
def inS (l : List ByteArray) (a : ByteArray) : Bool := l.any (fun s => a.toList == s.toList)
theorem index_l0 (l : List ByteArray) (a : ByteArray) (hl : l.length ≤ 4611686018427387904) : ∀ (d i : Nat), i + d = l.length → ∃ r : Int, slices_Index_string_string.l0 (d + 1) l a (l.length : Int) (i : Int) = some r ∧ decide (0 ≤ r) = (l.drop i).any (fun s => a.toList == s.toList)
  | 0, i, h => by
    refine ⟨-1, ?_, ?_⟩
    · rw [slices_Index_string_string.l0, if_neg (by omega)]
    · rw [List.drop_of_length_le (by omega)]; rfl
  | d + 1, i, h => by
    have hi : i < l.length := by omega
    have hd := drop_rd l ByteArray.empty i hi
    by_cases he : a.toList = (rdOf ByteArray.empty l (i : Int)).toList
    · refine ⟨i, ?_, ?_⟩
      · rw [slices_Index_string_string.l0, if_pos (by omega), if_pos (by omega), if_pos (by omega), if_pos he]
      · rw [hd, List.any_cons, show l.getD i ByteArray.empty = rdOf ByteArray.empty l (i : Int) from rfl]
        simp [he]
    · obtain ⟨r, hr, hq⟩ := index_l0 l a hl d (i + 1) (by omega)
      refine ⟨r, ?_, ?_⟩
      · rw [slices_Index_string_string.l0, if_pos (by omega), if_pos (by omega), if_pos (by omega), if_neg he, show wrap64 ((i : Int) + 1) = ((i + 1 : Nat) : Int) by unfold wrap64; omega]
        exact hr
      · rw [hq, hd, List.any_cons, show l.getD i ByteArray.empty = rdOf ByteArray.empty l (i : Int) from rfl]
        simp [he]
theorem contains_f (l : List ByteArray) (a : ByteArray) (hl : l.length ≤ 4611686018427387904) : slices_Contains_string_string.f (l.length + 1) l a = some (inS l a) := by
  obtain ⟨r, hr, hq⟩ := index_l0 l a hl l.length 0 (by omega)
  rw [slices_Contains_string_string.f, slices_Index_string_string.f]
  rw [show ((0 : Nat) : Int) = 0 from rfl] at hr
  rw [hr]
  simp only [Option.bind_some, Option.some.injEq]
  rw [List.drop_zero] at hq
  exact hq

def varStep (out : List ByteArray) (x : S25) : List ByteArray := if x.f0 = true then (if inS out x.f1 = true then out else out ++ [x.f1]) else out
def varsL (l : List S25) (out : List ByteArray) : List ByteArray := l.foldl varStep out
theorem varsL_len : ∀ (l : List S25) (out : List ByteArray), (varsL l out).length ≤ out.length + l.length
  | [], out => by simp [varsL]
  | x :: l, out => by
    have h := varsL_len l (varStep out x)
    have h2 : (varStep out x).length ≤ out.length + 1 := by unfold varStep; split <;> (try split) <;> simp
    simp only [varsL, List.foldl_cons, List.length_cons] at h ⊢
    omega

def VarsI (w : World) (ys : List S25) (W : World) : Prop :=
  (∃ v, W.heap[w.heap.size + 1]? = some (.cells #[v] 43 (0, 0)) ∧ W.ownsRow w.heap.size 9 1 v (varsL ys []).length ((varsL ys []).map Value.string)) ∧ Below w.heap.size w W
theorem VarsI.own {w : World} {B : Nat} (hB : w.heap.size ≤ B) : OwnFrom B (VarsI w) := by
  intro ys X Y row hs hg hr
  obtain ⟨⟨v, h1, h2⟩, h4⟩ := hs
  refine ⟨⟨v, cells_own (β := Unit) _ _ _ B () X Y row h1 hg hr, h2.kept hg ?_⟩, ownFrom_below (β := Unit) (Nat.le_refl _) hB () X Y row h4 hg hr⟩
  rcases h2.2 with ⟨rfl, _⟩ | ⟨g, cap, cur, rfl, _, hgb, _⟩
  · exact .inl rfl
  · refine .inr fun e' => ?_
    have e2 : some g = row := by simpa [Value.ownBlock] using e'
    obtain ⟨_, o, ho, hc⟩ := hr g e2.symm
    rw [hgb] at ho
    cases ho
    cases hc
theorem VarsI.alloc {w W : World} {ys : List S25} (h : VarsI w ys W) (o : Obj) : VarsI w ys (W.alloc o) :=
  ⟨by obtain ⟨v, h1, h2⟩ := h.1; exact ⟨v, blk_alloc h1 _, h2.alloc _⟩, h.2.alloc h.2.size _⟩
theorem KpN.appended {n₀ base e size : Nat} {W w1 : World} {o : Obj} {v : Value} {m : Nat} {xs : List Value} (hn : n₀ ≤ W.heap.size) (hb : n₀ ≤ base) (hrow : W.ownsRow base e size v m xs) (h1 : e ≠ 25) (h2 : e ≠ 27) (hg : (W.alloc o).grownBy w1 v.ownBlock) : KpN n₀ W w1 := by
  refine ⟨((Below.refl n₀ W).alloc hn o).grown hg (by simp; omega) (fun j ej => Nat.le_trans hb (own_base hrow j ej)), fun b cs t ht hbk => ?_⟩
  refine (hg.block b (by have := blk_lt hbk; simp; omega) (fun ej => ?_)).trans (blk_alloc hbk o)
  obtain ⟨cells, hc⟩ := own_typed hrow b ej.symm
  rw [hbk] at hc
  cases hc
  rcases ht with ht | ht
  · exact h1 ht
  · exact h2 ht

theorem blk_kept_row {W w1 : World} {n₀ m e size k b t : Nat} {o : Obj} {v : Value} {xs : List Value} {cs : Array Value} (hb : W.heap[b]? = some (Obj.cells cs t (0, 0))) (hrow : W.ownsRow n₀ e size v k xs) (hne : t ≠ e) (hg : ((W.drewN m).alloc o).grownBy w1 v.ownBlock) : w1.heap[b]? = some (Obj.cells cs t (0, 0)) := by
  refine (hg.block b (by have := blk_lt hb; simp; omega) (fun ej => ?_)).trans (blk_alloc (blk_drewN hb m) o)
  obtain ⟨cells, hc⟩ := own_typed hrow b ej.symm
  rw [hb] at hc
  cases hc
  exact hne rfl

theorem keepsFrom_appended {W w1 : World} {n₀ m e size k B : Nat} {o : Obj} {v : Value} {xs : List Value} (hrow : W.ownsRow n₀ e size v k xs) (hg : ((W.drewN m).alloc o).grownBy w1 v.ownBlock) : KeepsFrom B W w1 := by
  refine ⟨Nat.le_trans (by simp) hg.size, fun j ob _ hk ho => ?_⟩
  refine (hg.block j (by have := blk_lt hk; simp; omega) (fun ej => ?_)).trans (blk_alloc (blk_drewN hk m) o)
  obtain ⟨cells, hc⟩ := own_typed hrow j ej.symm
  rw [hk] at hc
  cases hc
  cases ho
theorem own_set_far {W : World} {n₀ e size k b t : Nat} {v u : Value} {xs : List Value} {cs : Array Value} (hrow : W.ownsRow n₀ e size v k xs) (hb : W.heap[b]? = some (Obj.cells cs t (0, 0))) (hne : t ≠ e) (j : Nat) : (W.setCell ⟨b, j, none⟩ u).ownsRow n₀ e size v k xs :=
  own_move hrow (fun q hq => Below.heap_setCell W ⟨b, j, none⟩ u q (by
    rintro rfl
    obtain ⟨cells, hc⟩ := own_typed hrow _ hq
    rw [hb] at hc
    cases hc
    exact hne rfl))

set_option maxHeartbeats 2000000 in
set_option maxRecDepth 100000 in
theorem vars_calls (kc : Nat) (t : S25) (B : Option Addr) (d : Nat) (w : World) (hB : k25.C w B t.f2.length t.f2) (hd2 : t.f2.length ≤ d) (hck : types_Check.f kc t.f0 t.f1 t.f2 = some 0) (hsz : szT t ≤ 8796093022208) :
    Calls Try.prog 23 #[.agg #[.bool t.f0, .string t.f1, .slice B t.f2.length d]] w fun e w' => ∃ v, e = .returned (.tuple #[v, .int .i64 0]) ∧ w'.ownsRow w.heap.size 9 1 v (varsL (preT t) []).length ((varsL (preT t) []).map Value.string) ∧ Below w.heap.size w w' := by
  have hcc := fun W (hw : Below w.heap.size w W) => types_Check.calls kc t.f0 t.f1 B d t.f2 0 W (Kd.C_below hB hw) hd2 hck
  refine (callsIn_wide (n := 6)).1 ?_
  refine callsIn_of_wp_marks Try.func23 rfl trivial ?_ rfl
  simp only [Try.ntmps23, List.size_toArray, List.length_cons, List.length_nil, Nat.reduceAdd, Nat.reduceSub, Array.replicate_succ, Array.replicate_zero, List.push_toArray, List.append_toArray, List.nil_append, List.cons_append]
  gi_wp2_with (first | (refine ⟨trivial, ?_⟩; gi_at_call 28; refine (callsIn_wide.2 (hcc _ (below_two _ _))).mono ?_; rintro e w1 ⟨rfl, hb1⟩; have hbw := below_step (below_two _ _) hb1; have BT := blk_below (blk_mid (w := w) (.cells #[.bool t.f0, .string t.f1, .slice B t.f2.length d] 25) (.cells #[.slice none 0 0] 43)) hb1; have BO := blk_below (blk_top (w := w) (.cells #[.bool t.f0, .string t.f1, .slice B t.f2.length d] 25) (.cells #[.slice none 0 0] 43)) hb1; obtain ⟨z0, z1, z2, _, _, _⟩ := box3 BT; obtain ⟨y0, y1⟩ := box1 BO) | (refine ⟨trivial, ?_⟩; gi_at_call 68; refine (nodes_in Fence.wide _ trivial rfl _ _ _ _).mono ?_; rintro e w' ⟨rfl, rfl⟩))
  have hb4 := below_step hbw (below_one (.cells #[.bool t.f0, .string t.f1, .slice B t.f2.length d] 25))
  have e1 := blk_alloc BO (.cells #[.bool t.f0, .string t.f1, .slice B t.f2.length d] 25)
  have e3 := blk_new w1 (.cells #[.bool t.f0, .string t.f1, .slice B t.f2.length d] 25)
  have hs1 : w.heap.size + 2 ≤ w1.heap.size := by have := blk_lt BO; omega
  refine wpIn_rangeFunc_ownH rfl (by omega) (gf := 106) (lb := #[.pointer (some ⟨w1.heap.size, 0, none⟩)]) rfl trivial (enters_of Try.func106 (by kernel_rfl) rfl)
    (nodes_stops Fence.wide rfl _ trivial trivial rfl w1.heap.size t B d w _ hb4 (fun _ => True) (fun _ _ => trivial) e3 hd2 hB) (fun h k => h.trans k)
    (fun W l o o' hl ho h1 h2 => ⟨?kb1, ?kb2⟩) (Below.refl _ _) (fun _ => rfl)
    (fun pre W => VarsI w (treeN pre) W) (fun _ _ _ => False)
    (fun pre X Y row hs hg hr => VarsI.own (by simp; omega) (treeN pre) X Y row hs hg hr) (fun _ _ _ _ _ hs _ _ => hs)
    ⟨⟨_, e1, World.ownsRow_nil _ _ _ _⟩, hb4⟩
    (fun x a' W => ∃ Bx, w.heap.size + 1 < Bx ∧ W.heap[Bx]? = some (.cells #[.bool x.1.1.f0, .string x.1.1.f1, .slice x.1.2.1 x.1.1.f2.length x.1.2.2] 25 (0, 0)) ∧ a' = { tmps := #[.agg #[.bool t.f0, .string t.f1, .slice B t.f2.length d], .pointer (some ⟨w.heap.size, 0, none⟩), .pointer (some ⟨w.heap.size + 1, 0, none⟩), .int .i64 0, .pointer (some ⟨Bx, 0, none⟩), .agg #[.bool t.f0, .string t.f1, .slice B t.f2.length d], .int .i64 0, .int .i64 0, .bool false, undef, .agg #[.bool t.f0, .string t.f1, .slice B t.f2.length d], .func (.func 106) #[] #[.pointer (some ⟨w1.heap.size, 0, none⟩)], .agg #[.bool x.1.1.f0, .string x.1.1.f1, .slice x.1.2.1 x.1.1.f2.length x.1.2.2], undef, undef, undef, undef, undef, undef, undef, undef, undef, undef, undef, undef, undef, undef, undef], defers := [] })
    (fun x a' _ X Y row hs hg hr => by obtain ⟨Bx, h1, h2, h3⟩ := hs; exact ⟨Bx, h1, cells_own (β := Unit) _ _ _ _ () X Y row h2 hg hr, h3⟩)
    ?assign ?body ?done ?stop
  case kb1 => exact belowK_b (w := w1.alloc _) hb4.size W l o o' hl ho h1 h2
  case kb2 =>
    intro b cs u _ hb
    exact (World.putObj_heap_other (by rintro rfl; rw [ho] at hb; cases hb; cases h1)).trans hb
  case assign =>
    rintro l pre x W K hi hK
    gi_wp2
    exact hK _ _ (keepsFrom_below (below_one _)) (KpN.of_below hi.2.size (below_one _)) (hi.alloc _) ⟨W.heap.size, by obtain ⟨v, h2, _⟩ := hi.1; exact blk_lt h2, blk_new _ _, rfl⟩
  case body =>
    rintro l pre x a' W hl ⟨rr, hrr⟩ hi ⟨Bx, hBx, bX, rfl⟩ hlt
    obtain ⟨Q, hQ, hpost⟩ : ∃ Q, (∀ a' W', KeepsFrom (w1.alloc (.cells #[.bool t.f0, .string t.f1, .slice B t.f2.length d] 25)).heap.size W W' ∧ KpN w.heap.size W W' ∧ VarsI w (treeN pre ++ [x.1.1]) W' → Q Exit.normal a' W') ∧ ownPostG (w1.alloc (.cells #[.bool t.f0, .string t.f1, .slice B t.f2.length d] 25)).heap.size (KpN w.heap.size) (fun pre W => VarsI w (treeN pre) W) (fun _ _ _ => False) (pre ++ [x]) W = Q :=
      ⟨_, fun a' W' h => ⟨h.1, h.2.1, by show VarsI w (treeN (pre ++ [x])) W'; rw [show treeN (pre ++ [x]) = treeN pre ++ [x.1.1] by simp]; exact h.2.2⟩, rfl⟩
    rw [hpost]
    have HQ := Aside0.mk hQ
    clear hpost hQ
    obtain ⟨⟨x, X, cx⟩, ⟨hxc, hxC⟩, hxP⟩ := x
    dsimp only at HQ bX hxc hxC hxP ⊢
    obtain ⟨⟨v, hbo, hrow⟩, hbw2⟩ := hi
    obtain ⟨cx0, cx1, cx2, _, _, _⟩ := box3 bX
    obtain ⟨co, fo⟩ := box1 hbo
    have lo := blk_lt hbo
    have lx := blk_lt bX
    have hlen := varsL_len (treeN pre) []
    have hpl : (treeN pre).length = pre.length := by simp
    have hvs : varsL (treeN pre ++ [x]) [] = varStep (varsL (treeN pre) []) x := by simp [varsL]
    have hcon := contains_f (varsL (treeN pre) []) x.f1 (by simp only [List.length_nil] at hlen; omega)
    obtain ⟨RA, rc, rfl, hrl, hrC⟩ := Kd.R_reads (Kd.R_of_own (h1 := fun _ => rfl) (e := 9) (ok := fun _ => True) (enc := Value.string) (xs := varsL (treeN pre) []) hrow (fun _ _ => trivial))
    have HBW := Aside0.mk hbw2
    have HBO := Aside0.mk hbo
    have HBX := Aside0.mk bX
    have HROW := Aside0.mk hrow
    have HVS := Lib.hid hvs
    have HLEN := Aside0.mk hlen
    have HRC := Aside0.mk hrC
    clear hbw2 hbo bX hrow hvs hlen hrC hxC hxP hcc hb4 e1 e3 hb1 hbw BT BO
    cases hx0 : x.f0 with
    | false =>
      rw [hx0] at cx0
      have HX0 := Lib.hid hx0
      clear hx0 hcon
      gi_wp2
      refine ⟨trivial, ?_⟩
      gi_wp2
      exact HQ.out _ _ ⟨KeepsFrom.refl _ _, KpN.refl _ _, ⟨_, HBO.out, by rw [HVS.out, varStep, if_neg (by rw [HX0.out]; decide)]; exact HROW.out⟩, HBW.out⟩
    | true =>
      rw [hx0] at cx0
      have HX0 := Lib.hid hx0
      clear hx0
      cases hin : inS (varsL (treeN pre) []) x.f1 with
      | true =>
        rw [hin] at hcon
        have HIN := Lib.hid hin
        have hct := fun m => slices_Contains_string_string.calls _ RA rc _ x.f1 true (W.drewN m) (Kd.C_below HRC.out (pw_below_drewN (Below.refl _ _) m)) hrl hcon
        clear hcon hin
        gi_wp2_with (refine ⟨trivial, ?_⟩; gi_at_call 69; refine (CallsIn.inRound l (callsIn_wide.2 (hct 0))).mono ?_; rintro e w2 ⟨rfl, ⟨m, rfl⟩⟩)
        exact HQ.out _ _ ⟨keepsFrom_drewN _ _, KpN.of_below HBW.out.size (pw_below_drewN (Below.refl _ _) m), ⟨_, blk_drewN HBO.out m, by rw [HVS.out, varStep, if_pos HX0.out, if_pos HIN.out]; exact HROW.out⟩, pw_below_drewN HBW.out m⟩
      | false =>
        rw [hin] at hcon
        have HIN := Lib.hid hin
        have hct := fun m => slices_Contains_string_string.calls _ RA rc _ x.f1 false (W.drewN m) (Kd.C_below HRC.out (pw_below_drewN (Below.refl _ _) m)) hrl hcon
        clear hcon hin
        obtain ⟨i0, hi0, hz0, hz1, hz2⟩ := info_parts info_str
        have hl1 : (varsL (treeN pre) []).length + 1 ≤ 8796093022208 := by have := HLEN.out; simp at this; omega
        have hsW := HBW.out.size
        gi_wp2_with (first | (refine ⟨trivial, ?_⟩; gi_at_call 69; refine (CallsIn.inRound l (callsIn_wide.2 (hct 0))).mono ?_; rintro e w2 ⟨rfl, ⟨m, rfl⟩⟩) | (gi_at_builtin; refine wpListIn_append_own _ rfl _ _ 43 rfl w.heap.size 9 i0 (.string ⟨#[]⟩) 1 16 Try.underlying43 hi0 hz0 hz1 hz2 rfl (by decide) _ _ _ rfl ((pw_own_drewN HROW.out m).alloc _) ⟨W.heap.size, 0, none⟩ 1 1 [.string x.f1] rfl rfl (cell_one_new _ _ _) (by simp [Value.oneCell']) (by unfold maxLen; omega) (by omega) (by simp; omega) ?_; intro v' w3 hown' hgrow _; obtain ⟨g', cap', rfl⟩ := ownsRow_succ hown'; have hv1 := blk_kept_row HBO.out HROW.out (by decide) hgrow; obtain ⟨co3, fo3⟩ := box1 hv1))
        have hkp := KpN.appended (n₀ := w.heap.size) (m := (varsL (treeN pre) []).length) (xs := (varsL (treeN pre) []).map Value.string) (W := W.drewN m) hsW (Nat.le_refl _) (pw_own_drewN HROW.out m) (by decide) (by decide) hgrow
        have hkp2 : KpN w.heap.size W w3 := (KpN.of_below hsW (pw_below_drewN (Below.refl _ _) m)).trans hkp
        exact HQ.out _ _ ⟨(keepsFrom_appended HROW.out hgrow).trans (keepsFrom_set _ _ _), hkp2.set (by omega) hv1 (by decide) (by decide) 0 _, ⟨_, blk_put hv1 0 _ rfl, by rw [HVS.out, varStep, if_pos HX0.out, if_neg (by rw [HIN.out]; decide)]; exact own_set_far (by simpa using hown') hv1 (by decide) 0⟩, (HBW.out.trans hkp2.1).setCell (by simp) _⟩
  case done =>
    rintro D ys W hD hS hi hK
    obtain ⟨⟨v, hbo, hrow⟩, hbw2⟩ := hi
    obtain ⟨co, fo⟩ := box1 hbo
    rw [show treeN ys = preT t from hS] at hrow
    obtain ⟨RA, rc, rfl⟩ := own_slice hrow
    gi_wp2
    have hK2 : (W.setCell ⟨w.heap.size + 1, 0, none⟩ (.slice RA (varsL (preT t) []).length rc)).heap[D]? = some (.deferred (some [])) := (KeepsOthers.setCell W _ _).same D _ hK rfl
    have hDne : D ≠ w.heap.size + 1 := by rintro rfl; rw [hbo] at hK; cases hK
    refine ⟨by simp, .inl ⟨_, _, rfl, run_takeDeferred hK2, ?_⟩⟩
    have hbo2 : ((W.setCell ⟨w.heap.size + 1, 0, none⟩ (.slice RA (varsL (preT t) []).length rc)).putObj D (.deferred none)).heap[w.heap.size + 1]? = some (.cells #[.slice RA (varsL (preT t) []).length rc] 43 (0, 0)) :=
      (World.putObj_heap_other (Ne.symm hDne)).trans (blk_put hbo 0 _ rfl)
    obtain ⟨co2, _⟩ := box1 hbo2
    have hrow2 := ownsRow_putObj (own_set_far (u := .slice RA (varsL (preT t) []).length rc) hrow hbo (by decide) 0) (.deferred none) hK2 rfl
    have hb2 : Below w.heap.size w ((W.setCell ⟨w.heap.size + 1, 0, none⟩ (.slice RA (varsL (preT t) []).length rc)).putObj D (.deferred none)) := (hbw2.setCell (p := ⟨w.heap.size + 1, 0, none⟩) (by simp) _).trans (belowK_b (w := w) (Nat.le_refl _) _ D _ _ (by simp at hD; omega) hK2 rfl rfl)
    exact ⟨.tuple #[.slice RA (varsL (preT t) []).length rc, .int .i64 0], by simp [results, Try.results23, go_sem, co2], _, rfl, hrow2, hb2⟩
  case stop =>
    rintro D c pre W _ _ h _
    exact h.elim

def types_Vars.f (k : Nat) (a0_0 : Bool) (a0_1 : ByteArray) (l0_2 : List (S25)) : Option (List ByteArray × Int) :=
  (types_Check.f k a0_0 a0_1 l0_2).bind fun e => if e = 0 then (if szT ⟨a0_0, a0_1, l0_2⟩ ≤ 8796093022208 then some (varsL (preT ⟨a0_0, a0_1, l0_2⟩) [], 0) else none) else some ([], e)
set_option maxHeartbeats 2000000 in
set_option maxRecDepth 100000 in
theorem types_Vars.calls (k : Nat) (a0_0 : Bool) (a0_1 : ByteArray) (A0_2 : Option Addr) (c0_2 : Nat) (l0_2 : List (S25)) (r1 : List ByteArray) (r2 : Int) (w : World) (hr0_2 : Kd.C k25 w A0_2 l0_2.length l0_2) (hc0_2 : l0_2.length ≤ c0_2) (h : types_Vars.f k a0_0 a0_1 l0_2 = some (r1, r2)) :
    Calls Try.prog 23 #[.agg #[.bool a0_0, .string a0_1, .slice A0_2 l0_2.length c0_2]] w fun e w' => ∃ v0_ : Value, e = .returned (.tuple #[v0_, .int .i64 r2]) ∧ Kd.R Kd.string 9 w' w.heap.size (fun _ => True) v0_ r1 ∧ Below w.heap.size w w' := by
  cases hck : types_Check.f k a0_0 a0_1 l0_2 with
  | none => rw [types_Vars.f, hck] at h; simp at h
  | some e =>
    rw [types_Vars.f, hck] at h
    simp only [Option.bind_some] at h
    by_cases he : e = 0
    · subst he
      rw [if_pos rfl] at h
      by_cases hs : szT ⟨a0_0, a0_1, l0_2⟩ ≤ 8796093022208
      · rw [if_pos hs] at h
        simp only [Option.some.injEq, Prod.mk.injEq] at h
        obtain ⟨rfl, rfl⟩ := h
        refine (vars_calls k ⟨a0_0, a0_1, l0_2⟩ A0_2 c0_2 w hr0_2 hc0_2 hck hs).mono ?_
        rintro e w' ⟨v, rfl, hrow, hb⟩
        exact ⟨v, rfl, Kd.R_of_own (enc := Value.string) (h1 := fun _ => rfl) hrow (fun _ _ => trivial), hb⟩
      · rw [if_neg hs] at h
        simp at h
    · rw [if_neg he] at h
      simp only [Option.some.injEq, Prod.mk.injEq] at h
      obtain ⟨rfl, rfl⟩ := h
      have hcc := fun W (hw : Below w.heap.size w W) => types_Check.calls k a0_0 a0_1 A0_2 c0_2 l0_2 e W (Kd.C_below hr0_2 hw) hc0_2 hck
      have hne : (e != 0) = true := bne_iff_ne.mpr he
      clear hck hr0_2 he
      go_enter Try.func23, Try.ntmps23
      go_wp2_with (go_at_call 28; refine (hcc _ (below_two _ _)).mono ?_; rintro e w1 ⟨rfl, hb1⟩; have hbw := below_step (below_two _ _) hb1; have BO := blk_below (blk_top (w := w) (.cells #[.bool a0_0, .string a0_1, .slice A0_2 l0_2.length c0_2] 25) (.cells #[.slice none 0 0] 43)) hb1; obtain ⟨y0, y1⟩ := box1 BO)
      obtain ⟨co, _⟩ := box1 (blk_put (cs' := #[.slice none 0 0]) BO 0 (.slice none 0 0) rfl)
      refine bodyPost_ret (v := .tuple #[.slice none 0 0, .int .i64 e]) (by simp [results, Try.results23, go_sem, co]) rfl ?_
      exact ⟨_, rfl, Kd.R_nil _ _ _ _ _, hbw.setCell (by simp) _⟩
end Go.Proofs.Ytgnklkmifcmlhaa.Q
/- Proved here: the contract of types.grown. Conditions: those that each theorem names. -/
namespace Go.Proofs.Ytgnklkmifcmlhaa.Q
open Go.RowKit Go.Shelf Go.Proofs.YtgnklkmifcmlhaaW.PrintWords Go.Proofs.YtgnklkmifcmlhaaW.PrintMore
set_option linter.unusedVariables false
set_option linter.unusedSimpArgs false
attribute [local go_sem] Oper.semAt_some

/-! ### grown -/
def growStep (k : Nat) (s : List S59) (n : Int) (x : S25) : Option Int :=
  match s.find? (findP x.f1) with
  | some b => if x.f0 = true then (types_Size.f k b.f1.f0 b.f1.f1 b.f1.f2).bind fun m => some (wrap64 (n + m)) else some (wrap64 (n + 1))
  | none => some (wrap64 (n + 1))
def growO (k : Nat) (s : List S59) : List S25 → Int → Option Int
  | [], n => some n
  | x :: l, n => (growStep k s n x).bind fun m => growO k s l m
theorem growO_snoc (k : Nat) (s : List S59) (x : S25) : ∀ (l : List S25) (n : Int), growO k s (l ++ [x]) n = (growO k s l n).bind fun m => growStep k s m x
  | [], n => by simp [growO]
  | y :: l, n => by
    simp only [List.cons_append, growO]
    cases growStep k s n y with
    | none => rfl
    | some m => simp [growO_snoc k s x l m]
theorem growO_some (k : Nat) (s : List S59) : ∀ (l : List S25) (n r : Int), growO k s l n = some r → ∀ x, x ∈ l → ∀ m, (growStep k s m x).isSome = true
  | y :: l, n, r, h, x, hx, m => by
    simp only [growO] at h
    cases hy : growStep k s n y with
    | none => rw [hy] at h; simp at h
    | some q =>
      rw [hy] at h
      rcases List.mem_cons.1 hx with rfl | hx
      · simp only [growStep] at hy ⊢
        split at hy
        · split at hy
          · rename_i hb
            cases hz : types_Size.f k _ _ _ with
            | none => rw [hz] at hy; simp at hy
            | some z => simp [hb, hz]
          · rename_i hb
            simp [hb]
        · rfl
      · exact growO_some k s l q r h x hx m
def types_grown.f (k : Nat) (l0 : List S59) (a1_0 : Bool) (a1_1 : ByteArray) (l1_2 : List (S25)) : Option Int := growO k l0 (preT ⟨a1_0, a1_1, l1_2⟩) 0
def GrownI (w : World) (k : Nat) (s : List S59) (A : Option Addr) (c : Nat) (ys : List S25) (W : World) : Prop :=
  (∃ v, growO k s ys 0 = some v ∧ W.heap[w.heap.size + 2]? = some (.cells #[.int .i64 v] 3 (0, 0))) ∧ W.heap[w.heap.size]? = some (.cells #[.slice A s.length c] 22 (0, 0)) ∧ Below w.heap.size w W
theorem GrownI.own {w : World} {k : Nat} {s : List S59} {A : Option Addr} {c B : Nat} (hB : w.heap.size ≤ B) : OwnFrom B (GrownI w k s A c) := by
  intro ys X Y row hs hg hr
  obtain ⟨⟨v, h1, h2⟩, h3, h4⟩ := hs
  exact ⟨⟨v, h1, cells_own (β := Unit) _ _ _ B () X Y row h2 hg hr⟩, cells_own (β := Unit) _ _ _ B () X Y row h3 hg hr, ownFrom_below (β := Unit) (Nat.le_refl _) hB () X Y row h4 hg hr⟩
theorem GrownI.alloc {w W : World} {k : Nat} {s : List S59} {A : Option Addr} {c : Nat} {ys : List S25} (h : GrownI w k s A c ys W) (o : Obj) : GrownI w k s A c ys (W.alloc o) :=
  ⟨by obtain ⟨v, h1, h2⟩ := h.1; exact ⟨v, h1, blk_alloc h2 _⟩, blk_alloc h.2.1 _, h.2.2.alloc h.2.2.size _⟩

set_option maxHeartbeats 2000000 in
set_option maxRecDepth 100000 in
theorem grown_calls (k : Nat) (A : Option Addr) (c : Nat) (s : List S59) (t : S25) (B : Option Addr) (d : Nat) (r : Int) (w : World)
    (hs : k59.C w A s.length s) (hc : s.length ≤ c) (hB : k25.C w B t.f2.length t.f2) (hd2 : t.f2.length ≤ d) (h : growO k s (preT t) 0 = some r) :
    Calls Try.prog 58 #[.slice A s.length c, .agg #[.bool t.f0, .string t.f1, .slice B t.f2.length d]] w fun e w' => e = .returned (.int .i64 r) ∧ Below w.heap.size w w' := by
  refine (callsIn_wide (n := 6)).1 ?_
  refine callsIn_of_wp_marks Try.func58 rfl trivial ?_ rfl
  simp only [Try.ntmps58, List.size_toArray, List.length_cons, List.length_nil, Nat.reduceAdd, Nat.reduceSub, Array.replicate_succ, Array.replicate_zero, List.push_toArray, List.append_toArray, List.nil_append, List.cons_append]
  gi_wp2_with (refine ⟨trivial, ?_⟩; gi_at_call 68; refine (nodes_in Fence.wide _ trivial rfl _ _ _ _).mono ?_; rintro e w' ⟨rfl, rfl⟩)
  have hb4 : Below w.heap.size w ((((w.alloc (.cells #[.slice A s.length c] 22)).alloc (.cells #[.bool t.f0, .string t.f1, .slice B t.f2.length d] 25)).alloc (.cells #[.int .i64 0] 3)).alloc (.cells #[.bool t.f0, .string t.f1, .slice B t.f2.length d] 25)) :=
    ((below_two _ _).alloc (by simp; omega) _).alloc (by simp; omega) _
  have e0 := blk_alloc (blk_alloc (blk_mid (w := w) (.cells #[.slice A s.length c] 22) (.cells #[.bool t.f0, .string t.f1, .slice B t.f2.length d] 25)) (.cells #[.int .i64 0] 3)) (.cells #[.bool t.f0, .string t.f1, .slice B t.f2.length d] 25)
  have e2 := blk_alloc (blk_new ((w.alloc (.cells #[.slice A s.length c] 22)).alloc (.cells #[.bool t.f0, .string t.f1, .slice B t.f2.length d] 25)) (.cells #[.int .i64 0] 3)) (.cells #[.bool t.f0, .string t.f1, .slice B t.f2.length d] 25)
  have e3 := blk_new (((w.alloc (.cells #[.slice A s.length c] 22)).alloc (.cells #[.bool t.f0, .string t.f1, .slice B t.f2.length d] 25)).alloc (.cells #[.int .i64 0] 3)) (.cells #[.bool t.f0, .string t.f1, .slice B t.f2.length d] 25)
  simp only [World.size_alloc] at e2 e3
  have hsz : ((((w.alloc (.cells #[.slice A s.length c] 22)).alloc (.cells #[.bool t.f0, .string t.f1, .slice B t.f2.length d] 25)).alloc (.cells #[.int .i64 0] 3)).alloc (.cells #[.bool t.f0, .string t.f1, .slice B t.f2.length d] 25)).heap.size = w.heap.size + 4 := by simp
  obtain ⟨W0, hW0⟩ : ∃ W0, (((w.alloc (.cells #[.slice A s.length c] 22)).alloc (.cells #[.bool t.f0, .string t.f1, .slice B t.f2.length d] 25)).alloc (.cells #[.int .i64 0] 3)).alloc (.cells #[.bool t.f0, .string t.f1, .slice B t.f2.length d] 25) = W0 := ⟨_, rfl⟩
  rw [hW0] at hb4 e0 e2 e3 hsz ⊢
  clear hW0
  refine wpIn_rangeFunc_ownH rfl (by omega) (gf := 106) (lb := #[.pointer (some ⟨w.heap.size + 1 + 1 + 1, 0, none⟩)]) rfl trivial (enters_of Try.func106 (by kernel_rfl) rfl)
    (nodes_stops Fence.wide rfl _ trivial trivial rfl (w.heap.size + 1 + 1 + 1) t B d w W0 hb4 (fun x => ∀ m, (growStep k s m x).isSome = true) (growO_some k s (preT t) 0 r h) e3 hd2 hB) (fun h k => h.trans k)
    (fun W l o o' hl ho h1 h2 => ⟨?kb1, ?kb2⟩) (Below.refl _ _) (fun _ => rfl)
    (fun pre W => GrownI w k s A c (treeN pre) W) (fun _ _ _ => False)
    (fun pre X Y row hs hg hr => GrownI.own (by omega) (treeN pre) X Y row hs hg hr) (fun _ _ _ _ _ hs _ _ => hs)
    ⟨⟨0, rfl, e2⟩, e0, hb4⟩
    (fun x a' W => ∃ Bx, w.heap.size + 2 < Bx ∧ W.heap[Bx]? = some (.cells #[.bool x.1.1.f0, .string x.1.1.f1, .slice x.1.2.1 x.1.1.f2.length x.1.2.2] 25 (0, 0)) ∧ a' = { tmps := #[.slice A s.length c, .agg #[.bool t.f0, .string t.f1, .slice B t.f2.length d], .pointer (some ⟨w.heap.size, 0, none⟩), .pointer (some ⟨w.heap.size + 1, 0, none⟩), .int .i64 0, .pointer (some ⟨w.heap.size + 1 + 1, 0, none⟩), .pointer (some ⟨Bx, 0, none⟩), undef, undef, .agg #[.bool t.f0, .string t.f1, .slice B t.f2.length d], .func (.func 106) #[] #[.pointer (some ⟨w.heap.size + 1 + 1 + 1, 0, none⟩)], .agg #[.bool x.1.1.f0, .string x.1.1.f1, .slice x.1.2.1 x.1.1.f2.length x.1.2.2], undef, undef, undef, undef, undef, undef, undef, undef, undef, undef, undef, undef, undef, undef, undef, undef, undef, undef, undef], defers := [] })
    (fun x a' _ X Y row hs hg hr => by obtain ⟨Bx, h1, h2, h3⟩ := hs; exact ⟨Bx, h1, cells_own (β := Unit) _ _ _ _ () X Y row h2 hg hr, h3⟩)
    ?assign ?body ?done ?stop
  case kb1 => exact belowK_b (w := W0) hb4.size W l o o' hl ho h1 h2
  case kb2 =>
    intro b cs u _ hb
    exact (World.putObj_heap_other (by rintro rfl; rw [ho] at hb; cases hb; cases h1)).trans hb
  case assign =>
    rintro l pre x W K hi hK
    gi_wp2
    exact hK _ _ (keepsFrom_below (below_one _)) (KpN.of_below hi.2.2.size (below_one _)) (hi.alloc _) ⟨W.heap.size, by obtain ⟨v, _, h2⟩ := hi.1; exact blk_lt h2, blk_new _ _, rfl⟩
  case body =>
    rintro l pre x a' W hl ⟨rr, hrr⟩ hi ⟨Bx, hBx, bX, rfl⟩ hlt
    obtain ⟨⟨v, hv, hbn⟩, hbs, hbw⟩ := hi
    obtain ⟨Q, hQ, hpost⟩ : ∃ Q, (∀ a' W', KeepsFrom W0.heap.size W W' ∧ KpN w.heap.size W W' ∧ GrownI w k s A c (treeN pre ++ [x.1.1]) W' → Q Exit.normal a' W') ∧ ownPostG W0.heap.size (KpN w.heap.size) (fun pre W => GrownI w k s A c (treeN pre) W) (fun _ _ _ => False) (pre ++ [x]) W = Q :=
      ⟨_, fun a' W' h => ⟨h.1, h.2.1, by show GrownI w k s A c (treeN (pre ++ [x])) W'; rw [show treeN (pre ++ [x]) = treeN pre ++ [x.1.1] by simp]; exact h.2.2⟩, rfl⟩
    rw [hpost]
    have HQ := Aside0.mk hQ
    clear hpost hQ
    obtain ⟨⟨x, X, cx⟩, ⟨hxc, hxC⟩, hxP⟩ := x
    dsimp only at HQ bX hxc hxC hxP ⊢
    have hS := hxP v
    obtain ⟨m, hm⟩ := Option.isSome_iff_exists.1 hS
    have hnew : growO k s (treeN pre ++ [x]) 0 = some m := by rw [growO_snoc, hv]; exact hm
    have HNEW := Aside0.mk hnew
    have hBs : k59.C W A s.length s := Kd.C_below hs hbw
    obtain ⟨cx0, cx1, cx2, _, _, _⟩ := box3 bX
    obtain ⟨cn, fn0⟩ := box1 hbn
    obtain ⟨cs, _⟩ := box1 hbs
    have ln := blk_lt hbn
    have lx := blk_lt bX
    have ls := blk_lt hbs
    have HBW := Aside0.mk hbw
    have HBN := Aside0.mk hbn
    have HBS := Aside0.mk hbs
    have HBX := Aside0.mk bX
    have HPRE := Aside0.mk hv
    have hfin : ∀ (W3 : World), Below W.heap.size W W3 → ∀ q, growO k s (treeN pre ++ [x]) 0 = some q → KeepsFrom W0.heap.size W (W3.setCell ⟨w.heap.size + 2, 0, none⟩ (.int .i64 q)) ∧ KpN w.heap.size W (W3.setCell ⟨w.heap.size + 2, 0, none⟩ (.int .i64 q)) ∧ GrownI w k s A c (treeN pre ++ [x]) (W3.setCell ⟨w.heap.size + 2, 0, none⟩ (.int .i64 q)) := fun W3 h3 q hq =>
      ⟨(keepsFrom_below h3).trans (keepsFrom_set _ _ _), (KpN.of_below HBW.out.size h3).set (by omega) (blk_below HBN.out h3) (by decide) (by decide) 0 _, ⟨q, hq, blk_put (blk_below HBN.out h3) 0 _ rfl⟩, blk_far (blk_below HBS.out h3) (by simp) _, (below_step HBW.out h3).setCell (by simp) _⟩
    have hfin2 : ∀ (W3 : World), Below W.heap.size W W3 → ∀ q o, growO k s (treeN pre ++ [x]) 0 = some q → KeepsFrom W0.heap.size W ((W3.setCell ⟨w.heap.size + 2, 0, none⟩ (.int .i64 q)).alloc o) ∧ KpN w.heap.size W ((W3.setCell ⟨w.heap.size + 2, 0, none⟩ (.int .i64 q)).alloc o) ∧ GrownI w k s A c (treeN pre ++ [x]) ((W3.setCell ⟨w.heap.size + 2, 0, none⟩ (.int .i64 q)).alloc o) := fun W3 h3 q o hq =>
      ⟨(hfin W3 h3 q hq).1.trans (keepsFrom_below (below_one _)), (hfin W3 h3 q hq).2.1.alloc HBW.out.size _, (hfin W3 h3 q hq).2.2.alloc _⟩
    have HFIN := Aside0.mk hfin
    have HFIN2 := Aside0.mk hfin2
    clear hbw hbn hbs bX hs hxP hS hv hnew hfin hfin2
    simp only [growStep] at hm
    cases hf : s.find? (findP x.f1) with
    | none =>
      rw [hf] at hm
      simp only [Option.some.injEq] at hm
      have hfc := find_at A c s x.f1 false ⟨#[]⟩ [] false W hBs hc (by simp [types_find.f, hf])
      clear hf hBs
      have HM := Lib.hid hm
      clear hm
      cases hx0 : x.f0 <;> rw [hx0] at cx0
      all_goals
        clear hx0
        gi_wp2_with (refine ⟨trivial, ?_⟩; gi_at_call 100; refine (CallsIn.inRound l (callsIn_wide.2 hfc)).mono ?_; rintro e W1 ⟨A3, c3, rfl, hl3, hC3, hb1⟩; replace cx0 := pw_cell_below hb1 cx0; replace cx1 := pw_cell_below hb1 cx1; replace cx2 := pw_cell_below hb1 cx2; replace cn := pw_cell_below hb1 cn; have fn1 := (box1 (blk_below HBN.out hb1)).2; have lx1 := Nat.lt_of_lt_of_le lx hb1.size; have ln1 := Nat.lt_of_lt_of_le ln hb1.size)
        exact HQ.out _ _ (HFIN2.out W1 hb1 _ _ (by rw [HNEW.out, ← HM.out]))
    | some b =>
      rw [hf] at hm
      have hfc := find_at A c s x.f1 b.f1.f0 b.f1.f1 b.f1.f2 true W hBs hc (by simp [types_find.f, hf])
      clear hf hBs
      cases hx0 : x.f0 with
      | false =>
        rw [hx0] at cx0 hm
        simp only [Bool.false_eq_true, if_false, Option.some.injEq] at hm
        have HM := Lib.hid hm
        clear hx0 hm
        generalize b.f1.f0 = r1 at *
        generalize b.f1.f1 = r2 at *
        generalize b.f1.f2 = r3 at *
        gi_wp2_with (refine ⟨trivial, ?_⟩; gi_at_call 100; refine (CallsIn.inRound l (callsIn_wide.2 hfc)).mono ?_; rintro e W1 ⟨A3, c3, rfl, hl3, hC3, hb1⟩; replace cx0 := pw_cell_below hb1 cx0; replace cx1 := pw_cell_below hb1 cx1; replace cx2 := pw_cell_below hb1 cx2; replace cn := pw_cell_below hb1 cn; have fn1 := (box1 (blk_below HBN.out hb1)).2; have lx1 := Nat.lt_of_lt_of_le lx hb1.size; have ln1 := Nat.lt_of_lt_of_le ln hb1.size)
        exact HQ.out _ _ (HFIN2.out W1 hb1 _ _ (by rw [HNEW.out, ← HM.out]))
      | true =>
        rw [hx0] at cx0 hm
        simp only [if_true] at hm
        cases hz : types_Size.f k b.f1.f0 b.f1.f1 b.f1.f2 with
        | none => rw [hz] at hm; simp at hm
        | some z =>
          rw [hz] at hm
          simp only [Option.bind_some, Option.some.injEq] at hm
          have HM := Lib.hid hm
          have HZ := Lib.hid hz
          clear hx0 hm hz
          generalize b.f1.f0 = r1 at *
          generalize b.f1.f1 = r2 at *
          generalize b.f1.f2 = r3 at *
          gi_wp2_with (refine ⟨trivial, ?_⟩; gi_at_call 100; refine (CallsIn.inRound l (callsIn_wide.2 hfc)).mono ?_; rintro e W1 ⟨A3, c3, rfl, hl3, hC3, hb1⟩; replace cx0 := pw_cell_below hb1 cx0; replace cx1 := pw_cell_below hb1 cx1; replace cx2 := pw_cell_below hb1 cx2; replace cn := pw_cell_below hb1 cn; have fn1 := (box1 (blk_below HBN.out hb1)).2; have lx1 := Nat.lt_of_lt_of_le lx hb1.size; have ln1 := Nat.lt_of_lt_of_le ln hb1.size)
          have hsz2 := fun W2 (hw : Below W1.heap.size W1 W2) => types_Size.calls k r1 r2 A3 c3 r3 z W2 (Kd.C_below hC3 hw) hl3 HZ.out
          have hmx : Try.prog.follows .mixedOrders = true := by kernel_rfl
          gi_region_with_o ((try refine ⟨trivial, ?_⟩); gi_at_call 30; refine (CallsIn.inRound l (callsIn_wide.2 (hsz2 _ (by first | exact below_one _ | exact below_drew1 (below_one _))))).mono ?_; rintro e W2 ⟨rfl, hb2⟩; have hb2' : Below W1.heap.size W1 W2 := below_step (by first | exact below_one _ | exact below_drew1 (below_one _)) hb2; have cn2 := pw_cell_below hb2' cn; have fn2 := (box1 (blk_below (blk_below HBN.out hb1) hb2')).2)
          all_goals gi_wp2
          all_goals (try go_bits)
          all_goals exact HQ.out _ _ (HFIN.out W2 (below_step hb1 hb2') _ (by rw [HNEW.out, ← HM.out]))
  case done =>
    rintro D ys W hD hS hi hK
    obtain ⟨⟨v, hv, hbn⟩, hbs, hbw⟩ := hi
    obtain ⟨cn, _⟩ := box1 hbn
    rw [show treeN ys = preT t from hS, h] at hv
    obtain rfl := Option.some.inj hv
    gi_wp2
    refine ⟨by simp, .inl ⟨_, _, rfl, run_takeDeferred hK, ?_⟩⟩
    exact ⟨_, results_tmp rfl _ _ _, rfl, hbw.trans (belowK_b (w := w) (Nat.le_refl _) W D _ _ (by omega) hK rfl rfl)⟩
  case stop =>
    rintro D c pre W _ _ h _
    exact h.elim

theorem types_grown.calls (k : Nat) (A0 : Option Addr) (c0 : Nat) (l0 : List (S59)) (a1_0 : Bool) (a1_1 : ByteArray) (A1_2 : Option Addr) (c1_2 : Nat) (l1_2 : List (S25)) (r : Int) (w : World) (hr0 : Kd.C k59 w A0 l0.length l0) (hc0 : l0.length ≤ c0) (hr1_2 : Kd.C k25 w A1_2 l1_2.length l1_2) (hc1_2 : l1_2.length ≤ c1_2) (h : types_grown.f k l0 a1_0 a1_1 l1_2 = some r) :
    Calls Try.prog 58 #[.slice A0 l0.length c0, .agg #[.bool a1_0, .string a1_1, .slice A1_2 l1_2.length c1_2]] w fun e w' => e = .returned (.int .i64 r) ∧ Below w.heap.size w w' :=
  grown_calls k A0 c0 l0 ⟨a1_0, a1_1, l1_2⟩ A1_2 c1_2 r w hr0 hc0 hr1_2 hc1_2 h
end Go.Proofs.Ytgnklkmifcmlhaa.Q
/- Proved here: the contract of types.inst. Conditions: those that each theorem names. -/
namespace Go.Proofs.Ytgnklkmifcmlhaa.Q
open Go.RowKit Go.Shelf Go.Proofs.YtgnklkmifcmlhaaW.PrintWords Go.Proofs.YtgnklkmifcmlhaaW.PrintMore
set_option linter.unusedVariables false
set_option linter.unusedSimpArgs false
attribute [local go_sem] Oper.semAt_some

/-! ### inst -/
mutual
def instT (s : List S59) : S25 → S25
  | ⟨v, n, l⟩ => if v = true then (match s.find? (findP n) with | some b => b.f1 | none => ⟨v, n, l⟩) else ⟨false, n, instL s l⟩
def instL (s : List S59) : List S25 → List S25
  | [] => []
  | a :: l => instT s a :: instL s l
end
theorem instL_map (s : List S59) : ∀ l, instL s l = l.map (instT s)
  | [] => rfl
  | a :: l => by rw [instL, instL_map s l]; rfl
mutual
/-- Type variables have no arguments. -/
def okT : S25 → Prop
  | ⟨v, _, l⟩ => (v = true → l = []) ∧ okL l
def okL : List S25 → Prop
  | [] => True
  | a :: l => okT a ∧ okL l
end
theorem okL_mem : ∀ (l : List S25) (x : S25), okL l → x ∈ l → okT x
  | a :: l, x, h, hx => by
    simp only [okL] at h
    rcases List.mem_cons.1 hx with rfl | hx
    · exact h.1
    · exact okL_mem l x h.2 hx

structure InstAt (w : World) (s : List S59) (t : S25) (kk : Nat) (W : World) : Prop where
  b1 : W.heap[w.heap.size + 1]? = some (.cells #[.bool false, .string ⟨#[]⟩, .slice none 0 0] 25 (0, 0))
  b2 : ∃ v, W.heap[w.heap.size + 2]? = some (.cells #[.bool false, .string t.f1, v] 25 (0, 0)) ∧ RowW W (w.heap.size + 3) v (instL s (t.f2.take kk))
  hb : Below w.heap.size w W

theorem InstAt.next {w wr w1 w3 : World} {s : List S59} {t y : S25} {kk : Nat} {ys : List S25} {RA A4 : Option Addr} {rc c4 g cap : Nat} {inner : List Value} {vs : Nat → Value} {o : Obj}
    (htk : instL s (t.f2.take (kk + 1)) = ys ++ [y]) (hyl : ys.length = kk) (B1 : wr.heap[w.heap.size + 1]? = some (.cells #[.bool false, .string ⟨#[]⟩, .slice none 0 0] 25 (0, 0)))
    (hown : wr.ownsRow (w.heap.size + 3) 25 3 (.slice RA ys.length rc) ys.length inner)
    (hel : ∀ j, j < ys.length → inner[j * 3]? = some (.bool (rd_T25 ys (j : Int)).f0) ∧ inner[j * 3 + 1]? = some (.string (rd_T25 ys (j : Int)).f1) ∧ inner[j * 3 + 2]? = some (vs j) ∧ WT wr (fun k => w.heap.size + 3 ≤ k ∧ some k ≠ (Value.slice RA ys.length rc).ownBlock) (vs j) (rd_T25 ys (j : Int)).f2)
    (hb : Below w.heap.size w wr) (hlt : w.heap.size + 2 < wr.heap.size) (hb3 : Below wr.heap.size wr w1) (hW : WT w1 (fun k => wr.heap.size ≤ k) (.slice A4 y.f2.length c4) y.f2)
    (B6 : w3.heap[w.heap.size + 2]? = some (.cells #[.bool false, .string t.f1, .slice RA ys.length rc] 25 (0, 0)))
    (hown3 : w3.ownsRow (w.heap.size + 3) 25 3 (.slice (some ⟨g, 0, none⟩) (ys.length + 1) cap) (ys.length + 1) (inner ++ [.bool y.f0, .string y.f1, .slice A4 y.f2.length c4]))
    (hgr : (w1.alloc o).grownBy w3 (Value.slice RA ys.length rc).ownBlock) (hat : (Value.slice RA ys.length rc).ownBlock = some g ∨ g = (w1.alloc o).heap.size) :
    InstAt w s t (kk + 1) (w3.setCell ⟨w.heap.size + 2, 2, none⟩ (.slice (some ⟨g, 0, none⟩) (ys.length + 1) cap)) := by
  have hbo : Below wr.heap.size wr (w1.alloc o) := hb3.alloc hb3.size _
  have hrb : ∀ k, (Value.slice RA ys.length rc).ownBlock = some k → w.heap.size + 3 ≤ k ∧ k < wr.heap.size := fun k hk => ⟨own_base hown k hk, own_lt hown k hk⟩
  have hR := RowW.next (x := y) (own_later hown hbo) (fun j hj => ⟨(hel j hj).1, (hel j hj).2.1, (hel j hj).2.2.1, (hel j hj).2.2.2.later hbo⟩) ((hW.later (below_one _)).mono (fun k hk => ⟨by omega, fun e => by have := hrb k e.symm; omega⟩)) hown3 hgr hat
  have hB1 : w3.heap[w.heap.size + 1]? = some (.cells #[.bool false, .string ⟨#[]⟩, .slice none 0 0] 25 (0, 0)) :=
    (hgr.block _ (by have := hbo.size; omega) (fun e => by have := hrb _ e.symm; omega)).trans ((hbo.block _ (by omega)).trans B1)
  refine ⟨blk_far hB1 (by simp) _, ⟨_, blk_put B6 2 _ rfl, ?_⟩, ((below_step hb hbo).grown hgr (by have := hbo.size; have := hb.size; omega) (fun k hk => by have := hrb k hk; omega)).setCell (by simp) _⟩
  rw [htk]
  exact hR.far _ _ (by simp)

set_option maxHeartbeats 2000000 in
set_option maxRecDepth 100000 in
theorem inst_var (A0 : Option Addr) (c0 : Nat) (s : List S59) (t : S25) (A : Option Addr) (c : Nat) (w : World) (hs : k59.C w A0 s.length s) (hc0 : s.length ≤ c0)
    (hsz : ∀ b, b ∈ s → szT b.f1 ≤ 5864062014805) (hv : t.f0 = true) (hok : okT t) (hA : k25.C w A t.f2.length t.f2) (hc : t.f2.length ≤ c) :
    Calls Try.prog 59 #[.slice A0 s.length c0, .agg #[.bool t.f0, .string t.f1, .slice A t.f2.length c]] w fun e w' => ∃ v, e = .returned (.agg #[.bool (instT s t).f0, .string (instT s t).f1, v]) ∧ WT w' (fun k => w.heap.size ≤ k) v (instT s t).f2 ∧ Below w.heap.size w w' := by
  obtain ⟨tv, n, l⟩ := t
  dsimp only at hv hA hc ⊢
  subst hv
  obtain rfl : l = [] := by simp only [okT] at hok; exact hok.1 trivial
  simp only [instT, if_true]
  have hb2 := below_two (w := w) (.cells #[.bool true, .string n, .slice A 0 c] 25) (.cells #[.bool false, .string ⟨#[]⟩, .slice none 0 0] 25)
  have B0 := blk_mid (w := w) (.cells #[.bool true, .string n, .slice A 0 c] 25) (.cells #[.bool false, .string ⟨#[]⟩, .slice none 0 0] 25)
  have B1 := blk_top (w := w) (.cells #[.bool true, .string n, .slice A 0 c] 25) (.cells #[.bool false, .string ⟨#[]⟩, .slice none 0 0] 25)
  have HOK := Aside0.mk hok
  cases hf : s.find? (findP n) with
  | none =>
    have hfc := fun W (hw : Below w.heap.size w W) => find_at A0 c0 s n false ⟨#[]⟩ [] false W (Kd.C_below hs hw) hc0 (by simp [types_find.f, hf])
    clear hf hs hsz hA hok
    simp only [List.length_nil] at hfc ⊢
    go_enter Try.func59, Try.ntmps59
    go_wp2_with (go_at_call 100; refine (hfc _ hb2).mono ?_; rintro e W1 ⟨A3, c3, rfl, hl3, hC3, hb1⟩; have B3 := blk_below B0 hb1; have B4 := blk_below B1 hb1; obtain ⟨x0, x1, x2, _, _, _⟩ := box3 B3; obtain ⟨y0, y1, y2, y3, y4, y5⟩ := box3 B4; have l3 := blk_lt B3; have l4 := blk_lt B4)
    have P := blk_alloc (set3 (a' := .bool true) (b' := .string n) (c' := .slice A 0 c) B4) (.cells #[.bool false, .string ⟨#[]⟩, .slice A3 0 c3] 25)
    refine bodyPost_ret (results_cell_row rfl _ _ (w.heap.size + 1) 25 #[.bool true, .string n, .slice A 0 c] (0, 0) _ rfl P Try.underlying25 rfl (by kernel_rfl)) rfl ?_
    exact ⟨_, rfl, .nil _ _, ((((below_step hb2 hb1).setCell (by simp) _).setCell (by simp) _).setCell (by simp) _).alloc (by simp; omega) _⟩
  | some b =>
    have hbs := hsz b (List.mem_of_find?_eq_some hf)
    have hfc := fun W (hw : Below w.heap.size w W) => find_at A0 c0 s n b.f1.f0 b.f1.f1 b.f1.f2 true W (Kd.C_below hs hw) hc0 (by simp [types_find.f, hf])
    clear hf hs hsz hA hok
    dsimp only
    generalize b.f1 = x at *
    go_enter Try.func59, Try.ntmps59
    go_wp2_with (first | (go_at_call 100; refine (hfc _ hb2).mono ?_; rintro e W1 ⟨A3, c3, rfl, hl3, hC3, hb1⟩; have B3 := blk_below B0 hb1; have B4 := blk_below B1 hb1; obtain ⟨x0, x1, x2, _, _, _⟩ := box3 B3; obtain ⟨y0, y1, y2, y3, y4, y5⟩ := box3 B4; have l3 := blk_lt B3; have l4 := blk_lt B4) | (go_at_call 27; refine (twin_calls _ x A3 c3 _ (Nat.le_refl _) hbs (Kd.C_below hC3 (below_one _)) hl3).mono ?_; rintro e W2 ⟨v, rfl, hW, hb3⟩; obtain ⟨A4, c4, hv, _⟩ := hW.reads; subst hv; have B5 := blk_below (blk_alloc B4 (.cells #[.bool x.f0, .string x.f1, .slice A3 x.f2.length c3] 25)) hb3; obtain ⟨z0, z1, z2, z3, z4, z5⟩ := box3 B5; have l5 := blk_lt B5))
    have hs2 := hb3.size
    have hs1 := hb1.size
    refine bodyPost_ret (results_cell_row rfl _ _ (w.heap.size + 1) 25 #[.bool x.f0, .string x.f1, .slice A4 x.f2.length c4] (0, 0) _ rfl (set3 B5) Try.underlying25 rfl (by kernel_rfl)) rfl ?_
    simp only [World.size_alloc] at hs1 hs2 hW
    exact ⟨_, rfl, (((hW.far _ _ (by intro k hk; show k ≠ w.heap.size + 1; omega)).far _ _ (by intro k hk; show k ≠ w.heap.size + 1; omega)).far _ _ (by intro k hk; show k ≠ w.heap.size + 1; omega)).mono (fun k hk => by omega), (((below_step (below_step hb2 hb1) (below_step (below_one _) hb3)).setCell (by simp) _).setCell (by simp) _).setCell (by simp) _⟩

set_option maxHeartbeats 2000000 in
set_option maxRecDepth 100000 in
theorem inst_calls (A0 : Option Addr) (c0 : Nat) (s : List S59) (hc0 : s.length ≤ c0) (hsz : ∀ b, b ∈ s → szT b.f1 ≤ 5864062014805) : ∀ (n : Nat) (t : S25) (A : Option Addr) (c : Nat) (w : World), szT t ≤ n → szT t ≤ 1000000000000 → okT t → k59.C w A0 s.length s → k25.C w A t.f2.length t.f2 → t.f2.length ≤ c →
    Calls Try.prog 59 #[.slice A0 s.length c0, .agg #[.bool t.f0, .string t.f1, .slice A t.f2.length c]] w fun e w' => ∃ v, e = .returned (.agg #[.bool (instT s t).f0, .string (instT s t).f1, v]) ∧ WT w' (fun k => w.heap.size ≤ k) v (instT s t).f2 ∧ Below w.heap.size w w'
  | 0, t, A, c, w, h, _, _, _, _, _ => by have := szT_pos t; omega
  | n + 1, t, A, c, w, hn, hst, hok, hs, hA, hc => by
    cases hv : t.f0 with
    | true =>
      have h := inst_var A0 c0 s t A c w hs hc0 hsz hv hok hA hc
      rw [hv] at h
      exact h
    | false =>
      have hit : instT s t = ⟨false, t.f1, instL s t.f2⟩ := by
        obtain ⟨tv, tn, l⟩ := t
        dsimp only at hv
        subst hv
        rw [instT, if_neg (by simp)]
      have h2 : szT t = szL t.f2 + 1 := by cases t; simp [szT]
      have hlen : t.f2.length ≤ 1000000000000 := by
        have h3 := szL_len t.f2
        omega
      have ih := fun (kk : Nat) (hk : kk < t.f2.length) A' c' W hS hC hc' => inst_calls A0 c0 s hc0 hsz n (rd_T25 t.f2 (kk : Int)) A' c' W (by
        have := szL_mem t.f2 _ (getD_mem t.f2 z25 kk hk)
        show szT (t.f2.getD kk z25) ≤ n
        omega) (by
        have := szL_mem t.f2 _ (getD_mem t.f2 z25 kk hk)
        show szT (t.f2.getD kk z25) ≤ 1000000000000
        omega) (okL_mem t.f2 _ (by obtain ⟨tv, tn, l⟩ := t; simp only [okT] at hok; exact hok.2) (getD_mem t.f2 z25 kk hk)) hS hC hc'
      rw [hit]
      dsimp only
      have HS := Aside0.mk hs
      have HA := Aside0.mk hA
      have HC := Aside0.mk hc
      have IH := Aside0.mk ih
      clear hs hA hc ih hst hn hsz hok h2 hit
      have hb2 := below_two (w := w) (.cells #[.bool false, .string t.f1, .slice A t.f2.length c] 25) (.cells #[.bool false, .string ⟨#[]⟩, .slice none 0 0] 25)
      go_enter Try.func59, Try.ntmps59
      go_wp2_with fail
      obtain ⟨W0, hW0⟩ : ∃ W0, ((w.alloc (.cells #[.bool false, .string t.f1, .slice A t.f2.length c] 25)).alloc (.cells #[.bool false, .string ⟨#[]⟩, .slice none 0 0] 25)).alloc (.cells #[.bool false, .string t.f1, .slice none 0 0] 25) = W0 := ⟨_, rfl⟩
      have hS0 : InstAt w s t 0 W0 := by
        rw [← hW0]
        refine ⟨blk_alloc (blk_top _ _) _, ⟨_, ?_, by rw [List.take_zero]; exact RowW.nil _ _⟩, hb2.alloc (by simp; omega) _⟩
        have := blk_new ((w.alloc (.cells #[.bool false, .string t.f1, .slice A t.f2.length c] 25)).alloc (.cells #[.bool false, .string ⟨#[]⟩, .slice none 0 0] 25)) (.cells #[.bool false, .string t.f1, .slice none 0 0] 25)
        simpa using this
      rw [hW0]
      clear hW0 hb2
      go_loopg [29] t.f2.length (fun gg v29 wr => ∃ kk : Nat, kk ≤ t.f2.length ∧ gg + kk = t.f2.length ∧ v29 = .int .i64 (kk : Int) ∧ Aside0 (InstAt w s t kk wr))
      case atStart => exact ⟨0, by omega, by omega, rfl, ⟨hS0⟩⟩
      case round =>
        obtain ⟨kk, hk1, hk2, rfl, hT⟩ := hrel
        clear hS0
        obtain ⟨B1, ⟨v, B2, hrow⟩, hb⟩ := hT.out
        clear hT
        by_cases hkk : kk < t.f2.length
        · have q0 : decide (kk < t.f2.length) = true := decide_eq_true hkk
          obtain ⟨ad, A2, c2, rfl, hx0, hx1, hx2, hl2, hC2⟩ := at_T25 HA.out (kk : Int) (by omega) (by omega)
          replace hx0 := pw_cell_below hb hx0
          replace hx1 := pw_cell_below hb hx1
          replace hx2 := pw_cell_below hb hx2
          simp only [Int.toNat_natCast] at hx0 hx1 hx2
          have hcall := fun W (hw : Below w.heap.size w W) => IH.out kk hkk A2 c2 W (Kd.C_below HS.out hw) (Kd.C_below hC2 hw) hl2
          have htk : instL s (t.f2.take (kk + 1)) = instL s (t.f2.take kk) ++ [instT s (rd_T25 t.f2 (kk : Int))] := by
            rw [instL_map, instL_map, List.take_add_one, List.map_append, List.getElem?_eq_getElem hkk]
            simp only [Option.toList_some, List.map_cons, List.map_nil]
            rw [(rd_get t.f2 kk _ (List.getElem?_eq_getElem hkk)).2]
          have hyl : (instL s (t.f2.take kk)).length = kk := by rw [instL_map, List.length_map, List.length_take]; omega
          generalize instL s (t.f2.take kk) = ys at *
          generalize rd_T25 t.f2 (kk : Int) = x at *
          generalize hY : instT s x = y at *
          clear hY
          obtain ⟨inner, vs, hown, hel⟩ := hrow
          obtain ⟨RA, rc, rfl⟩ := own_slice hown
          have HTK := Lib.hid htk
          have HYL := Lib.hid hyl
          have HEL := Aside0.mk hel
          have HOWN := Aside0.mk hown
          have HB1 := Aside0.mk B1
          have HB2 := Aside0.mk B2
          have HB := Aside0.mk hb
          have hlt := blk_lt B2
          clear htk hyl hel hown B1 hb hC2
          obtain ⟨c0', c1', c2', f0, f1, f2⟩ := box3 B2
          clear B2
          go_wp2_with fail
          obtain ⟨i0, hi0, hz0, hz1, hz2⟩ := info_parts info25
          obtain ⟨W1, hW1⟩ : ∃ W1, wr.alloc (.cells #[.bool x.f0, .string x.f1, .slice A2 x.f2.length c2] 25) = W1 := ⟨_, rfl⟩
          have BN := blk_new wr (.cells #[.bool x.f0, .string x.f1, .slice A2 x.f2.length c2] 25)
          have hsz1 : W1.heap.size = wr.heap.size + 1 := by rw [← hW1]; simp
          have hbw1 : Below wr.heap.size wr W1 := by rw [← hW1]; exact below_one _
          rw [hW1] at BN ⊢
          clear hW1
          obtain ⟨n0, n1, n2, _, _, _⟩ := box3 BN
          obtain ⟨m0, m1, m2, g0, g1, g2⟩ := box3 (blk_below HB2.out hbw1)
          have hlt1 := Nat.lt_of_lt_of_le hlt hbw1.size
          clear BN c0' c1' c2' f0 f1 f2 hx0 hx1 hx2
          go_region_law (first
            | (refine step_append_lies _ rfl _ _ 23 rfl (w.heap.size + 3) 25 i0 _ 3 48 Try.underlying23 hi0 hz0 hz1 hz2 rfl (by decide) (.slice RA ys.length rc) ys.length inner rfl ((own_later HOWN.out hb3).alloc _) ⟨w1.heap.size, 0, none⟩ 1 1 [.bool y.f0, .string y.f1, .slice A4 y.f2.length c4] rfl rfl (World.news_of_block (blk_new w1 _)) ?hone (by decide) ?h63 ?hby ?hbase _ rfl ?_; (case hone => simp [Value.oneCell']); (case h63 => have := HYL.out; unfold maxLen; omega); (case hby => have := HYL.out; omega); (case hbase => simp; omega); intro g cap w3 hown3 hgr hat hg3; have B6 := (hgr.block (w.heap.size + 2) (by simp; omega) (fun e => by have := own_base HOWN.out _ e.symm; omega)).trans (blk_alloc B5 _); obtain ⟨k0, k1, k2, k3, k4, k5⟩ := box3 B6)
            | (go_simp; go_at_call 59; refine (hcall _ (below_drew1 (HB.out.trans (hbw1.mono HB.out.size)))).mono ?_; rintro e w1 ⟨u, rfl, hW, hb1⟩; obtain ⟨A4, c4, hu4, _⟩ := hW.reads; subst hu4; have hb2 := below_step (below_drew1 (Below.refl _ W1)) hb1; have hb3 := below_step hbw1 hb2; have B5 := blk_below HB2.out hb3; obtain ⟨z0, z1, z2, z3, z4, z5⟩ := box3 B5; have l5 := blk_lt B5))
          all_goals (have HR := InstAt.next (s := s) (t := t) (kk := kk) HTK.out HYL.out HB1.out HOWN.out HEL.out HB.out hlt (hb3 := hb3) (hW.mono (fun k hk => by simp at hk; omega)) B6 hown3 hgr hat)
          all_goals (clear hb1 hb2 hb3 B5 B6 z0 z1 z2 z3 z4 z5 hown3 hgr hat hW k0 k1 k2 k3 k4 k5 hcall n0 n1 n2 m0 m1 m2 g0 g1 g2)
          all_goals go_wp2
          all_goals (go_roundg (t.f2.length - kk - 1))
          case measure => omega
          case rel => exact ⟨kk + 1, by omega, by omega, by simp, ⟨HR⟩⟩
          case measure => omega
          case rel => exact ⟨kk + 1, by omega, by omega, by simp, ⟨HR⟩⟩
          case measure => omega
          case rel => exact ⟨kk + 1, by omega, by omega, by simp, ⟨HR⟩⟩
          case measure => omega
          case rel => exact ⟨kk + 1, by omega, by omega, by simp, ⟨HR⟩⟩
        · have q0 : decide (kk < t.f2.length) = false := decide_eq_false hkk
          obtain rfl : kk = t.f2.length := by omega
          rw [List.take_length] at hrow
          have HROW := Aside0.mk hrow
          obtain ⟨c0', c1', c2', f0, f1, f2⟩ := box3 B2
          obtain ⟨e0, e1, e2, g0, g1, g2⟩ := box3 B1
          obtain ⟨inner, vs, hown, _⟩ := hrow
          obtain ⟨RA, rc, rfl⟩ := own_slice hown
          clear hkk hown
          go_wp2
          refine bodyPost_ret (results_cell_row rfl _ _ (w.heap.size + 1) 25 #[.bool false, .string t.f1, .slice RA (instL s t.f2).length rc] (0, 0) _ rfl (set3 B1) Try.underlying25 rfl (by kernel_rfl)) rfl ?_
          exact ⟨_, rfl, (((HROW.out.far _ _ (by simp)).far _ _ (by simp)).far _ _ (by simp)).tree.mono (fun k hk => by omega), ((hb.setCell (by simp) _).setCell (by simp) _).setCell (by simp) _⟩
end Go.Proofs.Ytgnklkmifcmlhaa.Q
/- Proved here: the contract of types.Inst. Conditions: those that each theorem names. -/
namespace Go.Proofs.Ytgnklkmifcmlhaa.Q
open Go.RowKit Go.Shelf Go.Proofs.YtgnklkmifcmlhaaW.PrintWords Go.Proofs.YtgnklkmifcmlhaaW.PrintMore
set_option linter.unusedVariables false
set_option linter.unusedSimpArgs false
attribute [local go_sem] Oper.semAt_some

/-! ### What Inst answers -/
/-- A valid type: its variables have no arguments. -/
theorem shB_okT : ∀ (t : S25), shB t = true → okT t := by
  intro t
  induction t using S_ind with
  | _ t ih =>
    intro h
    obtain ⟨v, n, l⟩ := t
    simp only [shB, Bool.and_eq_true] at h
    simp only [okT]
    refine ⟨fun hv => ?_, ?_⟩
    · have h2 := h.1
      unfold headB at h2
      rw [if_pos hv] at h2
      simp only [Bool.and_eq_true, beq_iff_eq] at h2
      exact List.length_eq_zero_iff.1 h2.2.2
    · have : ∀ (m : List S25), (∀ x, x ∈ m → x ∈ l) → shBL m = true → okL m := by
        intro m
        induction m with
        | nil => intro _ _; trivial
        | cons a m ihm =>
          intro hm hs
          simp only [shBL, Bool.and_eq_true] at hs
          exact ⟨ih a (hm a (List.mem_cons_self ..)) hs.1, ihm (fun x hx => hm x (List.mem_cons_of_mem _ hx)) hs.2⟩
      exact this l (fun _ h => h) h.2
theorem growO_append (k : Nat) (s : List S59) : ∀ (l m : List S25) (n : Int), growO k s (l ++ m) n = (growO k s l n).bind fun q => growO k s m q
  | [], m, n => by simp [growO]
  | y :: l, m, n => by
    simp only [List.cons_append, growO]
    cases growStep k s n y with
    | none => rfl
    | some q => simp [growO_append k s l m]
theorem growL_ev (s : List S59) : ∀ (l : List S25) (B : Nat), (∀ x, x ∈ l → ∀ (n : Nat), n + szT (instT s x) ≤ B → Ev (fun k => growO k s (preT x) (n : Int)) ((n + szT (instT s x) : Nat) : Int)) → ∀ n : Nat, n + szL (instL s l) ≤ B → Ev (fun k => growO k s (preL l) (n : Int)) ((n + szL (instL s l) : Nat) : Int)
  | [], B, h, n, hn => (Ev.pure _).val (by simp [instL, szL])
  | a :: l, B, h, n, hn => by
    simp only [instL, szL] at hn ⊢
    simp only [preL, growO_append]
    refine Ev.bind (h a (List.mem_cons_self ..) n (by omega)) ?_
    refine (growL_ev s l B (fun x hx => h x (List.mem_cons_of_mem _ hx)) _ (by omega)).val (by omega)
theorem grow_ev (s : List S59) (hs : ∀ b, b ∈ s → szT b.f1 ≤ 4611686018427387904) (t : S25) : okT t → ∀ n : Nat, n + szT (instT s t) ≤ 4611686018427387904 → Ev (fun k => growO k s (preT t) (n : Int)) ((n + szT (instT s t) : Nat) : Int) := by
  induction t using S_ind with
  | _ t ih =>
    intro hok n hn
    obtain ⟨v, nm, l⟩ := t
    simp only [okT] at hok
    simp only [preT, growO]
    cases v with
    | true =>
      obtain rfl := hok.1 rfl
      simp only [instT, if_true] at hn ⊢
      simp only [preL, growO, growStep, if_true]
      cases hf : s.find? (findP nm) with
      | none =>
        rw [hf] at hn
        dsimp only at hn ⊢
        simp only [szT, szL] at hn ⊢
        refine (Ev.pure _).val ?_
        rw [w64s (by omega)]
      | some b =>
        rw [hf] at hn
        dsimp only at hn ⊢
        have hb := hs b (List.mem_of_find?_eq_some hf)
        refine Ev.bind (Ev.bind (size_ev b.f1 hb) (Ev.pure _)) ((Ev.pure _).val ?_)
        rw [w64 (by omega) (by omega)]
        omega
    | false =>
      simp only [instT, Bool.false_eq_true, if_false, szT] at hn ⊢
      have h1 : ∀ k, growStep k s (n : Int) ⟨false, nm, l⟩ = some ((n + 1 : Nat) : Int) := by
        intro k
        unfold growStep
        rw [← w64s (by omega)]
        cases s.find? (findP nm) <;> simp
      simp only [h1, Option.bind_some]
      refine (growL_ev s l 4611686018427387904 (fun x hx n' hn' => ih x hx (okL_mem l x hok.2 hx) n' hn') (n + 1) (by omega)).val (by omega)

/-- Inst's answer. -/
def instF (s : List S59) (t : S25) : S25 × Int :=
  if (vldB s && chkB t) = true then (if szT (instT s t) ≤ 500 ∧ dpT (instT s t) ≤ 200 then (instT s t, 0) else (z25, 21)) else (z25, 10)
theorem instT_sz (s : List S59) (hs : ∀ b, b ∈ s → szT b.f1 ≤ 500) (t : S25) : szT (instT s t) ≤ 500 * szT t := by
  induction t using S_ind with
  | _ t ih =>
    obtain ⟨v, nm, l⟩ := t
    simp only [instT]
    split
    · split
      · rename_i b hf
        have := hs b (List.mem_of_find?_eq_some hf)
        simp only [szT]
        omega
      · omega
    · have : ∀ (m : List S25), (∀ x, x ∈ m → x ∈ l) → szL (instL s m) ≤ 500 * szL m := by
        intro m
        induction m with
        | nil => intro _; simp [instL, szL]
        | cons a m ihm =>
          intro hm
          simp only [instL, szL]
          have h1 := ih a (hm a (List.mem_cons_self ..))
          have h2 := ihm (fun x hx => hm x (List.mem_cons_of_mem _ hx))
          omega
      have h := this l (fun _ h => h)
      simp only [szT]
      omega

set_option maxHeartbeats 2000000 in
set_option maxRecDepth 100000 in
theorem inst_walk (A0 : Option Addr) (c0 : Nat) (s : List S59) (t : S25) (A : Option Addr) (c : Nat) (w : World) (hs : k59.C w A0 s.length s) (hc0 : s.length ≤ c0)
    (hA : k25.C w A t.f2.length t.f2) (hc : t.f2.length ≤ c) (hfs : ∀ b, b ∈ s → fitB b) (hft : fit t) :
    Calls Try.prog 16 #[.slice A0 s.length c0, .agg #[.bool t.f0, .string t.f1, .slice A t.f2.length c]] w fun e w' => ∃ v, e = .returned (.tuple #[.agg #[.bool (instF s t).1.f0, .string (instF s t).1.f1, v], .int .i64 (instF s t).2]) ∧ WT w' (fun k => w.heap.size ≤ k) v (instF s t).1.f2 ∧ Below w.heap.size w w' := by
  obtain ⟨kv, hkv⟩ := (valid_f_ev s hfs).at
  obtain ⟨kc, hkc⟩ := (check_ev t hft).at
  have h57 := fun W (hw : Below w.heap.size w W) => types_valid.calls kv A0 c0 s _ W (Kd.C_below hs hw) hc0 hkv
  have h28 := fun W (hw : Below w.heap.size w W) => types_Check.calls kc t.f0 t.f1 A c t.f2 _ W (Kd.C_below hA hw) hc hkc
  have hb0 := below_two (w := w) (.cells #[.bool t.f0, .string t.f1, .slice A t.f2.length c] 25) (.cells #[.bool false, .string ⟨#[]⟩, .slice none 0 0] 25)
  have B3 := blk_mid (w := w) (.cells #[.bool t.f0, .string t.f1, .slice A t.f2.length c] 25) (.cells #[.bool false, .string ⟨#[]⟩, .slice none 0 0] 25)
  have B4 := blk_top (w := w) (.cells #[.bool t.f0, .string t.f1, .slice A t.f2.length c] 25) (.cells #[.bool false, .string ⟨#[]⟩, .slice none 0 0] 25)
  unfold instF
  by_cases hok : (vldB s && chkB t) = true
  · rw [if_pos hok]
    rw [Bool.and_eq_true] at hok
    rw [if_pos hok.2] at h28
    rw [hok.1] at h57
    obtain ⟨hsh, hst, hdt⟩ := chkB_sh hok.2
    have hsb : ∀ b, b ∈ s → szT b.f1 ≤ 500 := fun b hb => (chkB_sh (vldB_mem hok.1 hb).2).2.1
    have hsi := instT_sz s hsb t
    have hokt := shB_okT t hsh
    obtain ⟨kg, hkg⟩ := (grow_ev s (fun b hb => Nat.le_trans (hsb b hb) (by omega)) t hokt 0 (by omega)).at
    have hkg : types_grown.f kg s t.f0 t.f1 t.f2 = some ((szT (instT s t) : Nat) : Int) := by
      rw [types_grown.f, show (⟨t.f0, t.f1, t.f2⟩ : S25) = t by cases t; rfl]
      simpa using hkg
    obtain ⟨ks, hks⟩ := (small_ev (instT s t) (by omega)).at
    have h58 := fun W (hw : Below w.heap.size w W) => types_grown.calls kg A0 c0 s t.f0 t.f1 A c t.f2 _ W (Kd.C_below hs hw) hc0 (Kd.C_below hA hw) hc hkg
    have h59 := fun W (hw : Below w.heap.size w W) => inst_calls A0 c0 s hc0 (fun b hb => Nat.le_trans (hsb b hb) (by omega)) (szT t) t A c W (Nat.le_refl _) (by omega) hokt (Kd.C_below hs hw) (Kd.C_below hA hw) hc
    have h60 := fun A' c' W hA' hc' => types_small.calls ks (instT s t).f0 (instT s t).f1 A' c' (instT s t).f2 _ W hA' hc' hks
    clear hs hA hok hkv hkc hkg hks hsb hokt hsh hst hdt hfs hft hsi
    generalize instT s t = r at *
    by_cases hq : szT r ≤ 500
    · have d1 : decide (500 < (szT r : Int)) = false := decide_eq_false (by omega)
      have d1b : decide (500 < szT r) = false := decide_eq_false (by omega)
      by_cases hq2 : dpT r ≤ 200
      · rw [if_pos ⟨hq, hq2⟩]
        rw [decide_eq_true hq, decide_eq_true hq2] at h60
        clear hq hq2
        dsimp only
        go_enter Try.func16, Try.ntmps16
        go_wp2_with (first
          | (go_at_call 57; refine (h57 _ hb0).mono ?_; rintro e W1 ⟨rfl, hc1⟩; have hb1 := below_step hb0 hc1; have B31 := blk_below B3 hc1; have B41 := blk_below B4 hc1; obtain ⟨x0, x1, x2, x3, x4, x5, x6⟩ := box3s B31; obtain ⟨y0, y1, y2, y3, y4, y5, y6⟩ := box3s B41)
          | (go_at_call 28; refine (h28 _ hb1).mono ?_; rintro e W2 ⟨rfl, hc2⟩; have hb2 := below_step hb1 hc2; have B32 := blk_below B31 hc2; have B42 := blk_below B41 hc2; obtain ⟨x0, x1, x2, x3, x4, x5, x6⟩ := box3s B32; obtain ⟨y0, y1, y2, y3, y4, y5, y6⟩ := box3s B42)
          | (go_at_call 58; refine (h58 _ hb2).mono ?_; rintro e W3 ⟨rfl, hc3⟩; have hb3 := below_step hb2 hc3; have B33 := blk_below B32 hc3; have B43 := blk_below B42 hc3; obtain ⟨x0, x1, x2, x3, x4, x5, x6⟩ := box3s B33; obtain ⟨y0, y1, y2, y3, y4, y5, y6⟩ := box3s B43)
          | (go_at_call 59; refine (h59 _ hb3).mono ?_; rintro e W4 ⟨v, rfl, hW, hc4⟩; obtain ⟨A4, c4, hv, hl4, hC4⟩ := hW.reads; subst hv; have hb4 := below_step hb3 hc4; have B34 := blk_below B33 hc4; have B44 := blk_below B43 hc4; obtain ⟨x0, x1, x2, x3, x4, x5, x6⟩ := box3s B34; obtain ⟨y0, y1, y2, y3, y4, y5, y6⟩ := box3s B44)
          | (go_at_call 60; refine (h60 A4 c4 _ (Kd.C_below hC4 (below_one _)) hl4).mono ?_; rintro e W5 ⟨rfl, hc5⟩; have hc5' := below_step (below_one _) hc5; have B45 := blk_below B44 hc5'; have B65 := blk_below (blk_new W4 (.cells #[.bool r.f0, .string r.f1, .slice A4 r.f2.length c4] 25)) hc5; obtain ⟨y0, y1, y2, y3, y4, y5, y6⟩ := box3s B45; obtain ⟨z0, z1, z2, z3, z4, z5, z6⟩ := box3s B65))
        have hs3 := hb3.size
        have hs4 := hc4.size
        refine bodyPost_ret (results_ct rfl _ _ (w.heap.size + 1) 25 #[.bool r.f0, .string r.f1, .slice A4 r.f2.length c4] (0, 0) _ rfl (set3 B45) Try.underlying25 rfl (by kernel_rfl)) rfl ?_
        exact ⟨_, rfl, ((((hW.later hc5').far _ _ (by intro k hk; show k ≠ w.heap.size + 1; omega)).far _ _ (by intro k hk; show k ≠ w.heap.size + 1; omega)).far _ _ (by intro k hk; show k ≠ w.heap.size + 1; omega)).mono (fun k hk => by omega), (((below_step hb4 hc5').setCell (by simp) _).setCell (by simp) _).setCell (by simp) _⟩
      · rw [if_neg (fun h => hq2 h.2)]
        rw [decide_eq_true hq, decide_eq_false hq2] at h60
        clear hq hq2
        dsimp only
        go_enter Try.func16, Try.ntmps16
        go_wp2_with (first
          | (go_at_call 57; refine (h57 _ hb0).mono ?_; rintro e W1 ⟨rfl, hc1⟩; have hb1 := below_step hb0 hc1; have B31 := blk_below B3 hc1; have B41 := blk_below B4 hc1; obtain ⟨x0, x1, x2, x3, x4, x5, x6⟩ := box3s B31; obtain ⟨y0, y1, y2, y3, y4, y5, y6⟩ := box3s B41)
          | (go_at_call 28; refine (h28 _ hb1).mono ?_; rintro e W2 ⟨rfl, hc2⟩; have hb2 := below_step hb1 hc2; have B32 := blk_below B31 hc2; have B42 := blk_below B41 hc2; obtain ⟨x0, x1, x2, x3, x4, x5, x6⟩ := box3s B32; obtain ⟨y0, y1, y2, y3, y4, y5, y6⟩ := box3s B42)
          | (go_at_call 58; refine (h58 _ hb2).mono ?_; rintro e W3 ⟨rfl, hc3⟩; have hb3 := below_step hb2 hc3; have B33 := blk_below B32 hc3; have B43 := blk_below B42 hc3; obtain ⟨x0, x1, x2, x3, x4, x5, x6⟩ := box3s B33; obtain ⟨y0, y1, y2, y3, y4, y5, y6⟩ := box3s B43)
          | (go_at_call 59; refine (h59 _ hb3).mono ?_; rintro e W4 ⟨v, rfl, hW, hc4⟩; obtain ⟨A4, c4, hv, hl4, hC4⟩ := hW.reads; subst hv; have hb4 := below_step hb3 hc4; have B34 := blk_below B33 hc4; have B44 := blk_below B43 hc4; obtain ⟨x0, x1, x2, x3, x4, x5, x6⟩ := box3s B34; obtain ⟨y0, y1, y2, y3, y4, y5, y6⟩ := box3s B44)
          | (go_at_call 60; refine (h60 A4 c4 _ (Kd.C_below hC4 (below_one _)) hl4).mono ?_; rintro e W5 ⟨rfl, hc5⟩; have hc5' := below_step (below_one _) hc5; have B45 := blk_below B44 hc5'; have B65 := blk_below (blk_new W4 (.cells #[.bool r.f0, .string r.f1, .slice A4 r.f2.length c4] 25)) hc5; obtain ⟨y0, y1, y2, y3, y4, y5, y6⟩ := box3s B45; obtain ⟨z0, z1, z2, z3, z4, z5, z6⟩ := box3s B65))
        refine bodyPost_ret (results_ct rfl _ _ (w.heap.size + 1) 25 #[.bool false, .string ⟨#[]⟩, .slice none 0 0] (0, 0) _ rfl (set3 B45) Try.underlying25 rfl (by kernel_rfl)) rfl ?_
        exact ⟨_, rfl, .nil _ _, (((below_step hb4 hc5').setCell (by simp) _).setCell (by simp) _).setCell (by simp) _⟩
    · have d1 : decide (500 < (szT r : Int)) = true := decide_eq_true (by omega)
      have d1b : decide (500 < szT r) = true := decide_eq_true (by omega)
      rw [if_neg (fun h => hq h.1)]
      clear hq h59 h60
      dsimp only
      go_enter Try.func16, Try.ntmps16
      go_wp2_with (first
        | (go_at_call 57; refine (h57 _ hb0).mono ?_; rintro e W1 ⟨rfl, hc1⟩; have hb1 := below_step hb0 hc1; have B31 := blk_below B3 hc1; have B41 := blk_below B4 hc1; obtain ⟨x0, x1, x2, x3, x4, x5, x6⟩ := box3s B31; obtain ⟨y0, y1, y2, y3, y4, y5, y6⟩ := box3s B41)
        | (go_at_call 28; refine (h28 _ hb1).mono ?_; rintro e W2 ⟨rfl, hc2⟩; have hb2 := below_step hb1 hc2; have B32 := blk_below B31 hc2; have B42 := blk_below B41 hc2; obtain ⟨x0, x1, x2, x3, x4, x5, x6⟩ := box3s B32; obtain ⟨y0, y1, y2, y3, y4, y5, y6⟩ := box3s B42)
        | (go_at_call 58; refine (h58 _ hb2).mono ?_; rintro e W3 ⟨rfl, hc3⟩; have hb3 := below_step hb2 hc3; have B33 := blk_below B32 hc3; have B43 := blk_below B42 hc3; obtain ⟨x0, x1, x2, x3, x4, x5, x6⟩ := box3s B33; obtain ⟨y0, y1, y2, y3, y4, y5, y6⟩ := box3s B43))
      refine bodyPost_ret (results_ct rfl _ _ (w.heap.size + 1) 25 #[.bool false, .string ⟨#[]⟩, .slice none 0 0] (0, 0) _ rfl (set3 B43) Try.underlying25 rfl (by kernel_rfl)) rfl ?_
      exact ⟨_, rfl, .nil _ _, ((hb3.setCell (by simp) _).setCell (by simp) _).setCell (by simp) _⟩
  · rw [if_neg hok]
    dsimp only
    cases hv : vldB s with
    | false =>
      rw [hv] at h57
      clear hok hkv hkc hfs hft h28 hs hA
      go_enter Try.func16, Try.ntmps16
      go_wp2_with (first
        | (go_at_call 57; refine (h57 _ hb0).mono ?_; rintro e W1 ⟨rfl, hc1⟩; have hb1 := below_step hb0 hc1; have B31 := blk_below B3 hc1; have B41 := blk_below B4 hc1; obtain ⟨x0, x1, x2, x3, x4, x5, x6⟩ := box3s B31; obtain ⟨y0, y1, y2, y3, y4, y5, y6⟩ := box3s B41))
      refine bodyPost_ret (results_ct rfl _ _ (w.heap.size + 1) 25 #[.bool false, .string ⟨#[]⟩, .slice none 0 0] (0, 0) _ rfl (set3 B41) Try.underlying25 rfl (by kernel_rfl)) rfl ?_
      exact ⟨_, rfl, .nil _ _, ((hb1.setCell (by simp) _).setCell (by simp) _).setCell (by simp) _⟩
    | true =>
      rw [hv, Bool.true_and] at hok
      rw [if_neg hok] at h28
      rw [hv] at h57
      clear hok hkv hkc hfs hft hs hA hv
      go_enter Try.func16, Try.ntmps16
      go_wp2_with (first
        | (go_at_call 57; refine (h57 _ hb0).mono ?_; rintro e W1 ⟨rfl, hc1⟩; have hb1 := below_step hb0 hc1; have B31 := blk_below B3 hc1; have B41 := blk_below B4 hc1; obtain ⟨x0, x1, x2, x3, x4, x5, x6⟩ := box3s B31; obtain ⟨y0, y1, y2, y3, y4, y5, y6⟩ := box3s B41)
        | (go_at_call 28; refine (h28 _ hb1).mono ?_; rintro e W2 ⟨rfl, hc2⟩; have hb2 := below_step hb1 hc2; have B32 := blk_below B31 hc2; have B42 := blk_below B41 hc2; obtain ⟨x0, x1, x2, x3, x4, x5, x6⟩ := box3s B32; obtain ⟨y0, y1, y2, y3, y4, y5, y6⟩ := box3s B42))
      refine bodyPost_ret (results_ct rfl _ _ (w.heap.size + 1) 25 #[.bool false, .string ⟨#[]⟩, .slice none 0 0] (0, 0) _ rfl (set3 B42) Try.underlying25 rfl (by kernel_rfl)) rfl ?_
      exact ⟨_, rfl, .nil _ _, ((hb2.setCell (by simp) _).setCell (by simp) _).setCell (by simp) _⟩
end Go.Proofs.Ytgnklkmifcmlhaa.Q
/- Proved here: the contracts of chapter 1 over trees that are read. Conditions: those that each theorem names. -/
namespace Go.Proofs.Ytgnklkmifcmlhaa.Q
open Go.RowKit Go.Shelf Go.Proofs.YtgnklkmifcmlhaaW.PrintWords Go.Proofs.YtgnklkmifcmlhaaW.PrintMore
set_option linter.unusedVariables false
set_option linter.unusedSimpArgs false

/-- A value that reads as a tree. -/
def Tr (w : World) (a : Value) (t : S25) : Prop := ∃ A c, a = .agg #[.bool t.f0, .string t.f1, .slice A t.f2.length c] ∧ t.f2.length ≤ c ∧ k25.C w A t.f2.length t.f2
theorem Tr.later {w w' : World} {a : Value} {t : S25} (h : Tr w a t) (hb : Below w.heap.size w w') : Tr w' a t := by
  obtain ⟨A, c, rfl, hl, hC⟩ := h
  exact ⟨A, c, rfl, hl, Kd.C_below hC hb⟩
theorem nilC (A : Option Addr) (w : World) : k25.C w A ([] : List S25).length [] := ⟨rfl, by simp, fun h => absurd h (by simp)⟩
theorem nilB (A : Option Addr) (w : World) : k59.C w A ([] : List S59).length [] := ⟨rfl, by simp, fun h => absurd h (by simp)⟩
theorem Tr.leaf (v : Bool) (n : ByteArray) (w : World) : Tr w (.agg #[.bool v, .string n, .slice none 0 0]) ⟨v, n, []⟩ := ⟨none, 0, rfl, Nat.le_refl _, nilC _ _⟩
theorem Tr.of_WT {w : World} {ok : Nat → Prop} {b : Bool} {n : ByteArray} {v : Value} {l : List S25} (h : WT w ok v l) : Tr w (.agg #[.bool b, .string n, v]) ⟨b, n, l⟩ := by
  obtain ⟨A, c, rfl, hl, hC⟩ := h.reads
  exact ⟨A, c, rfl, hl, hC⟩
def Ret (w : World) (t : S25) (e : Ending) (w' : World) : Prop := ∃ r, e = .returned r ∧ Tr w' r t ∧ Below w.heap.size w w'
theorem fun_tr (x y : S25) (a b : Value) (w : World) (ha : Tr w a x) (hb : Tr w b y) (hx : szT x ≤ 5864062014805) (hy : szT y ≤ 5864062014805) : Calls Try.prog 36 #[a, b] w (Ret w ⟨false, funN, [x, y]⟩) := by
  obtain ⟨A, c, rfl, hc, hA⟩ := ha
  obtain ⟨B, d, rfl, hd, hB⟩ := hb
  refine (fun_calls x y A c B d w hA hc hB hd hx hy).mono ?_
  rintro e w' ⟨v, rfl, hT, hb⟩
  exact ⟨_, rfl, Tr.of_WT hT, hb⟩
def varsF (t : S25) : List ByteArray × Int := if chkB t = true then (varsL (preT t) [], 0) else ([], 10)
theorem vars_ev (t : S25) (hf : fit t) : Ev (fun k => types_Vars.f k t.f0 t.f1 t.f2) (varsF t) := by
  obtain ⟨tv, tn, tl⟩ := t
  simp only [types_Vars.f]
  refine Ev.bind (check_ev _ hf) ?_
  unfold varsF
  cases hc : chkB ⟨tv, tn, tl⟩ with
  | false => simp; exact Ev.pure _
  | true =>
    have hs := (chkB_sh hc).2.1
    simp
    rw [if_pos (show szT ⟨tv, tn, tl⟩ ≤ 8796093022208 by omega)]
    exact Ev.pure _
theorem vars_tr (t : S25) (a : Value) (w : World) (ha : Tr w a t) (hf : fit t) : Calls Try.prog 23 #[a] w fun e w' => ∃ A c, e = .returned (.tuple #[.slice A (varsF t).1.length c, .int .i64 (varsF t).2]) ∧ (varsF t).1.length ≤ c ∧ Kd.C Kd.string w' A (varsF t).1.length (varsF t).1 ∧ Below w.heap.size w w' := by
  obtain ⟨A, c, rfl, hc, hA⟩ := ha
  obtain ⟨k, hk⟩ := (vars_ev t hf).at
  refine (types_Vars.calls k t.f0 t.f1 A c t.f2 (varsF t).1 (varsF t).2 w hA hc hk).mono ?_
  rintro e w' ⟨v, rfl, hR, hb⟩
  obtain ⟨A2, c2, rfl, hl, hC⟩ := Kd.R_reads hR
  exact ⟨A2, c2, rfl, hl, hC, hb⟩
theorem inst_tr (s : List S59) (t : S25) (A0 : Option Addr) (c0 : Nat) (a : Value) (w : World) (hs : k59.C w A0 s.length s) (hc0 : s.length ≤ c0) (ha : Tr w a t) (hfs : ∀ b, b ∈ s → fitB b) (hft : fit t) :
    Calls Try.prog 16 #[.slice A0 s.length c0, a] w fun e w' => ∃ r, e = .returned (.tuple #[r, .int .i64 (instF s t).2]) ∧ Tr w' r (instF s t).1 ∧ Below w.heap.size w w' := by
  obtain ⟨A, c, rfl, hc, hA⟩ := ha
  refine (inst_walk A0 c0 s t A c w hs hc0 hA hc hfs hft).mono ?_
  rintro e w' ⟨v, rfl, hT, hb⟩
  exact ⟨_, rfl, Tr.of_WT hT, hb⟩
theorem match_tr (p t : S25) (s : List S59) (a b : Value) (D : Option Addr) (f : Nat) (w : World) (ha : Tr w a p) (hb : Tr w b t) (hD : k59.C w D s.length s) (hf : s.length ≤ f) (hfp : fit p) (hft : fit t) (hfs : ∀ b, b ∈ s → fitB b) (hsl : s.length ≤ 500000) :
    Calls Try.prog 20 #[a, b, .slice D s.length f] w (MatchRes w (matchF p t s)) := by
  obtain ⟨A, c, rfl, hc, hA⟩ := ha
  obtain ⟨B, d, rfl, hd, hB⟩ := hb
  exact match_walk p t s A c B d D f w hA hB hc hd hD hf hfp hft hfs hsl
theorem same_tr (x y : S25) (a b : Value) (w : World) (ha : Tr w a x) (hb : Tr w b y) : Calls Try.prog 35 #[a, b] w fun e w' => e = .returned (.bool (cmpT x y == 0)) ∧ Below w.heap.size w w' := by
  obtain ⟨A, c, rfl, hc, hA⟩ := ha
  obtain ⟨B, d, rfl, hd, hB⟩ := hb
  exact same_calls x y A c B d w hA hc hB hd
/-! ### Literal rows -/
theorem lit_binds1 (W : World) (base : Nat) (hb : base ≤ W.heap.size) (a n : ByteArray) (v : Bool) : RowB (W.alloc (.cells #[.string a, .bool v, .string n, .slice none 0 0] 59)) base (.slice (some ⟨W.heap.size, 0, none⟩) 1 1) [⟨a, ⟨v, n, []⟩⟩] :=
  ⟨_, fun _ => .slice none 0 0, World.ownsRow_lit W _ 1 hb (by unfold maxLen; omega) rfl, fun j x hj => by
    match j, hj with
    | 0, hj => simp only [List.getElem?_cons_zero, Option.some.injEq] at hj; subst hj; exact ⟨rfl, rfl, rfl, rfl, .nil _ _⟩
    | j + 1, hj => simp at hj⟩
theorem lit_binds2 (W : World) (base : Nat) (hb : base ≤ W.heap.size) (a n a' n' : ByteArray) (v v' : Bool) :
    RowB (W.alloc (.cells #[.string a, .bool v, .string n, .slice none 0 0, .string a', .bool v', .string n', .slice none 0 0] 59)) base (.slice (some ⟨W.heap.size, 0, none⟩) 2 2) [⟨a, ⟨v, n, []⟩⟩, ⟨a', ⟨v', n', []⟩⟩] :=
  ⟨_, fun _ => .slice none 0 0, World.ownsRow_lit W _ 2 hb (by unfold maxLen; omega) rfl, fun j x hj => by
    match j, hj with
    | 0, hj => simp only [List.getElem?_cons_zero, Option.some.injEq] at hj; subst hj; exact ⟨rfl, rfl, rfl, rfl, .nil _ _⟩
    | 1, hj => simp only [List.getElem?_cons_succ, List.getElem?_cons_zero, Option.some.injEq] at hj; subst hj; exact ⟨rfl, rfl, rfl, rfl, .nil _ _⟩
    | j + 2, hj => simp at hj⟩
theorem RowB.C {w : World} {base : Nat} {A : Option Addr} {n c : Nat} {ys : List S59} (h : RowB w base (.slice A n c) ys) : k59.C w A ys.length ys := by
  obtain ⟨A', c', he, _, hC⟩ := h.reads
  simp only [Value.slice.injEq] at he
  rw [he.1]
  exact hC
theorem lit_strs2 (W : World) (a b : ByteArray) : Kd.C Kd.string (W.alloc (.cells #[.string a, .string b] 9)) (some ⟨W.heap.size, 0, none⟩) [a, b].length [a, b] :=
  ⟨rfl, by simp, fun _ => ⟨_, rfl, fun j p hj => by
    have hB := blk_new W (.cells #[.string a, .string b] 9)
    match j, hj with
    | 0, hj =>
      simp only [List.getElem?_cons_zero, Option.some.injEq] at hj
      subst hj
      refine ⟨[.string a], rfl, rfl, fun i u hu => ?_⟩
      match i, hu with
      | 0, hu => exact (blk_cell hB 0).trans hu
      | i + 1, hu => simp at hu
    | 1, hj =>
      simp only [List.getElem?_cons_succ, List.getElem?_cons_zero, Option.some.injEq] at hj
      subst hj
      refine ⟨[.string b], rfl, rfl, fun i u hu => ?_⟩
      match i, hu with
      | 0, hu => exact (blk_cell hB 1).trans hu
      | i + 1, hu => simp at hu
    | j + 2, hj => simp at hj⟩⟩
end Go.Proofs.Ytgnklkmifcmlhaa.Q
/- Proved here: the contracts of types.Match and types.Inst in the form in which printed texts call them. Conditions: those that each theorem names. -/
namespace Go.Proofs.Ytgnklkmifcmlhaa.Q
open Go.RowKit Go.Shelf Go.Proofs.YtgnklkmifcmlhaaW.PrintWords Go.Proofs.YtgnklkmifcmlhaaW.PrintMore
set_option linter.unusedVariables false
set_option linter.unusedSimpArgs false

mutual
def fitTB : S25 → Bool
  | ⟨_, n, l⟩ => decide (n.size ≤ 4611686018427387904) && fitLB l
def fitLB : List S25 → Bool
  | [] => true
  | a :: l => fitTB a && fitLB l
end
mutual
theorem fitTB_iff : ∀ t : S25, fitTB t = true ↔ allT (fun x => okS x.f1) t
  | ⟨v, n, l⟩ => by simp only [fitTB, allT, okS, Bool.and_eq_true, decide_eq_true_eq, fitLB_iff l]
theorem fitLB_iff : ∀ l : List S25, fitLB l = true ↔ allL (fun x => okS x.f1) l
  | [] => by simp [fitLB, allL]
  | a :: l => by simp only [fitLB, allL, Bool.and_eq_true, fitTB_iff a, fitLB_iff l]
end
def fitD (t : S25) : Bool := decide (szT t ≤ 4611686018427387904) && fitTB t
theorem fitD_iff (t : S25) : fitD t = true ↔ fit t := by
  unfold fitD fit
  rw [Bool.and_eq_true, decide_eq_true_eq, fitTB_iff]
end Go.Proofs.Ytgnklkmifcmlhaa.Q
/- Proved here: matching is sound and complete (plain laws, no program in sight). Conditions: those that each theorem names. -/
namespace Go.Proofs.Ytgnklkmifcmlhaa.Q
open Go.RowKit Go.Proofs.YtgnklkmifcmlhaaW.PrintWords Go.Proofs.YtgnklkmifcmlhaaW.PrintMore
set_option linter.unusedVariables false
set_option linter.unusedSimpArgs false

/-! ### compared 0: equal -/
/-! ### what is found extends what was given -/
/-! ### sound -/
/-! ### what is found is valid -/
theorem shBL_mem : ∀ (l : List S25) (x : S25), shBL l = true → x ∈ l → shB x = true
  | a :: l, x, h, hx => by
    simp only [shBL, Bool.and_eq_true] at h
    rcases List.mem_cons.1 hx with rfl | hx
    · exact h.1
    · exact shBL_mem l x h.2 hx
/-! ### the two laws -/
/-! ### valid: within bounds -/
theorem nameB_size {s : ByteArray} (h : nameB s = true) : s.size ≤ 30 := by
  unfold nameB at h
  simp only [Bool.and_eq_true, decide_eq_true_eq] at h
  exact h.1.2
theorem shB_all (t : S25) : shB t = true → allT (fun x => okS x.f1) t := by
  induction t using S_ind with
  | _ t ih =>
    intro h
    rw [shB_eq, Bool.and_eq_true] at h
    rw [allT_eq]
    have hn : nameB t.f1 = true := by
      have hh := h.1
      unfold headB at hh
      rw [Bool.and_eq_true] at hh
      exact hh.1
    refine ⟨by have := nameB_size hn; unfold okS; omega, (allL_mem _ _).2 (fun x hx => ih x hx (shBL_mem _ _ h.2 hx))⟩
theorem chkB_fit {t : S25} (h : chkB t = true) : fit t := by
  obtain ⟨h1, h2, _⟩ := chkB_sh h
  exact ⟨by omega, shB_all t h1⟩
end Go.Proofs.Ytgnklkmifcmlhaa.Q
