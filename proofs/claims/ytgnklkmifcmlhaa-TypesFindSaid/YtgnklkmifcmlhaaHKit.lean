/- Proved here: what slices.IndexFunc and slices.ContainsFunc answer, and small facts on blocks of memory. Conditions: those that each theorem names. -/
import Derived.Test.YtgnklkmifcmlhaaQ0
import Derived.Deep.LoopGhost
import Derived.Lib.Hide
import Derived.Shelf.RegionOpenPlain
namespace Go.Proofs.Ytgnklkmifcmlhaa.Q
open Go.RowKit Go.Proofs.YtgnklkmifcmlhaaW.PrintWords Go.Proofs.YtgnklkmifcmlhaaW.PrintMore
set_option linter.unusedVariables false
set_option linter.unusedSimpArgs false

/-! ### What slices.IndexFunc and slices.ContainsFunc answer, the predicate being told where it is -/
def indexO {α : Type} (o : α → Option Bool) : List α → Int → Option Int
  | [], _ => some (-1)
  | x :: l, i => (o x).bind fun b => if b = true then some i else indexO o l (i + 1)
def containsO {α : Type} (o : α → Option Bool) : List α → Option Bool
  | [] => some false
  | x :: l => (o x).bind fun b => if b = true then some true else containsO o l
theorem containsO_index {α : Type} {o : α → Option Bool} {l : List α} {r : Bool} (h : containsO o l = some r) (i : Int) (hi : 0 ≤ i) : ∃ k, indexO o l i = some k ∧ decide (0 ≤ k) = r := by
  induction l generalizing i with
  | nil =>
    simp only [containsO, Option.some.injEq] at h
    exact ⟨-1, rfl, by rw [← h]; rfl⟩
  | cons x l ih =>
    simp only [containsO] at h
    cases hx : o x with
    | none => rw [hx] at h; simp at h
    | some b =>
      rw [hx] at h
      simp only [Option.bind_some] at h
      cases b with
      | true =>
        simp only [if_true, Option.some.injEq] at h
        exact ⟨i, by simp [indexO, hx], by rw [← h]; simpa using hi⟩
      | false =>
        simp only [Bool.false_eq_true, if_false] at h
        obtain ⟨k, hk, hr⟩ := ih h (i + 1) (by omega)
        exact ⟨k, by simp [indexO, hx, hk], hr⟩
theorem containsO_le {α : Type} {o o' : α → Option Bool} (h : ∀ x, LeO (o x) (o' x)) : ∀ l, LeO (containsO o l) (containsO o' l)
  | [] => LeO.refl _
  | x :: l => by
    unfold containsO
    exact LeO.bind (h x) (fun b => LeO.ite (LeO.refl _) (containsO_le h l))
theorem drop_rd {α : Type} (l : List α) (z : α) (k : Nat) (h : k < l.length) : l.drop k = l.getD k z :: l.drop (k + 1) := by
  rw [List.drop_eq_getElem_cons h, List.getD_eq_getElem?_getD, List.getElem?_eq_getElem h]
  rfl
theorem getD_mem {α : Type} (l : List α) (z : α) (k : Nat) (h : k < l.length) : l.getD k z ∈ l := by
  rw [List.getD_eq_getElem?_getD, List.getElem?_eq_getElem h]
  exact List.getElem_mem h

/-! ### Blocks of a few cells -/
theorem box1 {w : World} {g : Nat} {t : TypeId} {a : Value} (h : w.heap[g]? = some (.cells #[a] t (0, 0))) : w.cell? ⟨g, 0, none⟩ = some a ∧ w.frozen? ⟨g, 0, none⟩ = false := ⟨(blk_cell h 0).trans rfl, blk_frozen h 0⟩
theorem box3 {w : World} {g : Nat} {t : TypeId} {a b c : Value} (h : w.heap[g]? = some (.cells #[a, b, c] t (0, 0))) :
    w.cell? ⟨g, 0, none⟩ = some a ∧ w.cell? ⟨g, 1, none⟩ = some b ∧ w.cell? ⟨g, 2, none⟩ = some c ∧ w.frozen? ⟨g, 0, none⟩ = false ∧ w.frozen? ⟨g, 1, none⟩ = false ∧ w.frozen? ⟨g, 2, none⟩ = false :=
  ⟨(blk_cell h 0).trans rfl, (blk_cell h 1).trans rfl, (blk_cell h 2).trans rfl, blk_frozen h 0, blk_frozen h 1, blk_frozen h 2⟩
/-- Three stores into a block of three cells. -/
theorem set3 {w : World} {g : Nat} {t : TypeId} {a b c a' b' c' : Value} (h : w.heap[g]? = some (.cells #[a, b, c] t (0, 0))) :
    (((w.setCell ⟨g, 0, none⟩ a').setCell ⟨g, 1, none⟩ b').setCell ⟨g, 2, none⟩ c').heap[g]? = some (.cells #[a', b', c'] t (0, 0)) :=
  blk_put (cs := #[a', b', c]) (blk_put (cs := #[a', b, c]) (blk_put (cs := #[a, b, c]) h 0 _ rfl) 1 _ rfl) 2 _ rfl
theorem blk_mid {w : World} (o o' : Obj) : ((w.alloc o).alloc o').heap[w.heap.size]? = some o := blk_alloc (blk_new w o) o'
theorem blk_top {w : World} (o o' : Obj) : ((w.alloc o).alloc o').heap[w.heap.size + 1]? = some o' := by have := blk_new (w.alloc o) o'; simpa using this
theorem below_two {w : World} (o o' : Obj) : Below w.heap.size w ((w.alloc o).alloc o') := ((Below.refl _ w).alloc (Nat.le_refl _) _).alloc (by simp) _
theorem below_one {w : World} (o : Obj) : Below w.heap.size w (w.alloc o) := (Below.refl _ w).alloc (Nat.le_refl _) _

/-- Element i of a row of bindings that is told by V: its cells; what its type leads to, told by V, too. -/
theorem tb_elem {w : World} {base : Nat} {ok : Nat → Prop} {A : Option Addr} {c : Nat} {l : List S59} (h : Kd.V k59 59 w base ok (.slice A l.length c) l) (i : Nat) (hi : i < l.length) :
    ∃ ad A3 c3, A = some ad ∧ w.cell? (ad.add (i * 4)) = some (.string (rd_T59 l i).f0) ∧ w.cell? ⟨(ad.add (i * 4)).block, (ad.add (i * 4)).off + 1, none⟩ = some (.bool (rd_T59 l i).f1.f0) ∧
      w.cell? ⟨(ad.add (i * 4)).block, (ad.add (i * 4)).off + 2, none⟩ = some (.string (rd_T59 l i).f1.f1) ∧ w.cell? ⟨(ad.add (i * 4)).block, (ad.add (i * 4)).off + 3, none⟩ = some (.slice A3 (rd_T59 l i).f1.f2.length c3) ∧
      (rd_T59 l i).f1.f2.length ≤ c3 ∧ Kd.V k25 25 w base ok (.slice A3 (rd_T59 l i).f1.f2.length c3) (rd_T59 l i).f1.f2 := by
  obtain ⟨ad, A3, c3, rfl, h0, h1, h2, h3, hl, hi3⟩ := at_T59 (Kd.V_reads' h).2.2 (i : Int) (by omega) (by omega)
  obtain ⟨ce, hce, hM, hcc⟩ := Kd.V_get h z59 (i : Int) (by omega) (by omega)
  obtain ⟨ua, uc, rfl, ul, ge⟩ := k59_openF hM
  have hv := hcc 3 _ rfl
  rw [show k59.sz = 4 from rfl, add_field _ _ 3 (by omega)] at hv
  replace hv := Option.some.inj (hv.symm.trans h3)
  injection hv with ha hn hc
  rw [ha] at ge
  rw [hc] at ul
  simp only [Int.toNat_natCast] at h0 h1 h2 h3
  exact ⟨ad, A3, c3, rfl, h0, h1, h2, h3, hl, Kd.V_mk ul ge⟩
/-- .. of a row of types. -/
theorem ty_elem {w : World} {base : Nat} {ok : Nat → Prop} {A : Option Addr} {c : Nat} {l : List S25} (h : Kd.V k25 25 w base ok (.slice A l.length c) l) (i : Nat) (hi : i < l.length) :
    ∃ ad A3 c3, A = some ad ∧ w.cell? (ad.add (i * 3)) = some (.bool (rd_T25 l i).f0) ∧
      w.cell? ⟨(ad.add (i * 3)).block, (ad.add (i * 3)).off + 1, none⟩ = some (.string (rd_T25 l i).f1) ∧ w.cell? ⟨(ad.add (i * 3)).block, (ad.add (i * 3)).off + 2, none⟩ = some (.slice A3 (rd_T25 l i).f2.length c3) ∧
      (rd_T25 l i).f2.length ≤ c3 ∧ Kd.V k25 25 w base ok (.slice A3 (rd_T25 l i).f2.length c3) (rd_T25 l i).f2 := by
  obtain ⟨ad, A3, c3, rfl, h0, h1, h2, hl, hi3⟩ := at_T25 (Kd.V_reads' h).2.2 (i : Int) (by omega) (by omega)
  obtain ⟨ce, hce, hM, hcc⟩ := Kd.V_get h z25 (i : Int) (by omega) (by omega)
  obtain ⟨ua, uc, rfl, ul, ge⟩ := k25_openF hM
  have hv := hcc 2 _ rfl
  rw [show k25.sz = 3 from rfl, add_field _ _ 2 (by omega)] at hv
  replace hv := Option.some.inj (hv.symm.trans h2)
  injection hv with ha hn hc
  rw [ha] at ge
  rw [hc] at ul
  simp only [Int.toNat_natCast] at h0 h1 h2
  exact ⟨ad, A3, c3, rfl, h0, h1, h2, hl, Kd.V_mk ul ge⟩
/-- A row that is read, told by V: its blocks are elder ones. -/
theorem ty_V {w : World} {base : Nat} {A : Option Addr} {c : Nat} {l : List S25} (h : k25.C w A l.length l) (hc : l.length ≤ c) : Kd.V k25 25 w base (fun k => k < w.heap.size) (.slice A l.length c) l :=
  Kd.V_mk hc (Kd.C_F k25_heap h)
theorem tb_V {w : World} {base : Nat} {A : Option Addr} {c : Nat} {l : List S59} (h : k59.C w A l.length l) (hc : l.length ≤ c) : Kd.V k59 59 w base (fun k => k < w.heap.size) (.slice A l.length c) l :=
  Kd.V_mk hc (Kd.C_F k59_heap h)
end Go.Proofs.Ytgnklkmifcmlhaa.Q
