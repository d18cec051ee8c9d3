/- Proved here: parts of the proof of a given statement (HRowTermsTyvars): contracts of the functions that it reaches, what they answer, and in the last text the statement itself. Conditions: those that each theorem names. -/
import Derived.Test.YtecplbgdalchdaaZTVX3
import Derived.Deep.LoopGhost
import Derived.Lib.Hide
import Derived.Shelf.RegionOpenPlain
/- Proved here: what slices.IndexFunc and slices.ContainsFunc answer, and small facts on blocks of memory. Conditions: those that each theorem names. -/
namespace Go.Proofs.Ytecplbgdalchdaa.Q
open Go.RowKit Go.Proofs.YtecplbgdalchdaaW.PrintWords Go.Proofs.YtecplbgdalchdaaW.PrintMore
set_option linter.unusedVariables false
set_option linter.unusedSimpArgs false

/-! ### What slices.IndexFunc and slices.ContainsFunc answer, the predicate being told where it is -/
def indexO {α : Type} (o : α → Option Bool) : List α → Int → Option Int
  | [], _ => some (-1)
  | x :: l, i => (o x).bind fun b => if b = true then some i else indexO o l (i + 1)
def containsO {α : Type} (o : α → Option Bool) : List α → Option Bool
  | [] => some false
  | x :: l => (o x).bind fun b => if b = true then some true else containsO o l
theorem containsO_index {α : Type} {o : α → Option Bool} {l : List α} {r : Bool} (h : containsO o l = some r) (i : Int) (hi : 0 ≤ i) : ∃ k, indexO o l i = some k ∧ decide (0 ≤ k) = r := by
  induction l generalizing i with
  | nil =>
    simp only [containsO, Option.some.injEq] at h
    exact ⟨-1, rfl, by rw [← h]; rfl⟩
  | cons x l ih =>
    simp only [containsO] at h
    cases hx : o x with
    | none => rw [hx] at h; simp at h
    | some b =>
      rw [hx] at h
      simp only [Option.bind_some] at h
      cases b with
      | true =>
        simp only [if_true, Option.some.injEq] at h
        exact ⟨i, by simp [indexO, hx], by rw [← h]; simpa using hi⟩
      | false =>
        simp only [Bool.false_eq_true, if_false] at h
        obtain ⟨k, hk, hr⟩ := ih h (i + 1) (by omega)
        exact ⟨k, by simp [indexO, hx, hk], hr⟩
theorem drop_rd {α : Type} (l : List α) (z : α) (k : Nat) (h : k < l.length) : l.drop k = l.getD k z :: l.drop (k + 1) := by
  rw [List.drop_eq_getElem_cons h, List.getD_eq_getElem?_getD, List.getElem?_eq_getElem h]
  rfl
theorem getD_mem {α : Type} (l : List α) (z : α) (k : Nat) (h : k < l.length) : l.getD k z ∈ l := by
  rw [List.getD_eq_getElem?_getD, List.getElem?_eq_getElem h]
  exact List.getElem_mem h

/-! ### Blocks of a few cells -/
theorem box1 {w : World} {g : Nat} {t : TypeId} {a : Value} (h : w.heap[g]? = some (.cells #[a] t (0, 0))) : w.cell? ⟨g, 0, none⟩ = some a ∧ w.frozen? ⟨g, 0, none⟩ = false := ⟨(blk_cell h 0).trans rfl, blk_frozen h 0⟩
theorem box3 {w : World} {g : Nat} {t : TypeId} {a b c : Value} (h : w.heap[g]? = some (.cells #[a, b, c] t (0, 0))) :
    w.cell? ⟨g, 0, none⟩ = some a ∧ w.cell? ⟨g, 1, none⟩ = some b ∧ w.cell? ⟨g, 2, none⟩ = some c ∧ w.frozen? ⟨g, 0, none⟩ = false ∧ w.frozen? ⟨g, 1, none⟩ = false ∧ w.frozen? ⟨g, 2, none⟩ = false :=
  ⟨(blk_cell h 0).trans rfl, (blk_cell h 1).trans rfl, (blk_cell h 2).trans rfl, blk_frozen h 0, blk_frozen h 1, blk_frozen h 2⟩
/-- Three stores into a block of three cells. -/
theorem set3 {w : World} {g : Nat} {t : TypeId} {a b c a' b' c' : Value} (h : w.heap[g]? = some (.cells #[a, b, c] t (0, 0))) :
    (((w.setCell ⟨g, 0, none⟩ a').setCell ⟨g, 1, none⟩ b').setCell ⟨g, 2, none⟩ c').heap[g]? = some (.cells #[a', b', c'] t (0, 0)) :=
  blk_put (cs := #[a', b', c]) (blk_put (cs := #[a', b, c]) (blk_put (cs := #[a, b, c]) h 0 _ rfl) 1 _ rfl) 2 _ rfl
theorem blk_mid {w : World} (o o' : Obj) : ((w.alloc o).alloc o').heap[w.heap.size]? = some o := blk_alloc (blk_new w o) o'
theorem blk_top {w : World} (o o' : Obj) : ((w.alloc o).alloc o').heap[w.heap.size + 1]? = some o' := by have := blk_new (w.alloc o) o'; simpa using this
theorem below_two {w : World} (o o' : Obj) : Below w.heap.size w ((w.alloc o).alloc o') := ((Below.refl _ w).alloc (Nat.le_refl _) _).alloc (by simp) _
theorem below_one {w : World} (o : Obj) : Below w.heap.size w (w.alloc o) := (Below.refl _ w).alloc (Nat.le_refl _) _

/-- .. of a row of types. -/
theorem ty_elem {w : World} {base : Nat} {ok : Nat → Prop} {A : Option Addr} {c : Nat} {l : List S24} (h : Kd.V k24 24 w base ok (.slice A l.length c) l) (i : Nat) (hi : i < l.length) :
    ∃ ad A3 c3, A = some ad ∧ w.cell? (ad.add (i * 3)) = some (.bool (rd_T24 l i).f0) ∧
      w.cell? ⟨(ad.add (i * 3)).block, (ad.add (i * 3)).off + 1, none⟩ = some (.string (rd_T24 l i).f1) ∧ w.cell? ⟨(ad.add (i * 3)).block, (ad.add (i * 3)).off + 2, none⟩ = some (.slice A3 (rd_T24 l i).f2.length c3) ∧
      (rd_T24 l i).f2.length ≤ c3 ∧ Kd.V k24 24 w base ok (.slice A3 (rd_T24 l i).f2.length c3) (rd_T24 l i).f2 := by
  obtain ⟨ad, A3, c3, rfl, h0, h1, h2, hl, hi3⟩ := at_T24 (Kd.V_reads' h).2.2 (i : Int) (by omega) (by omega)
  obtain ⟨ce, hce, hM, hcc⟩ := Kd.V_get h z24 (i : Int) (by omega) (by omega)
  obtain ⟨ua, uc, rfl, ul, ge⟩ := k24_openF hM
  have hv := hcc 2 _ rfl
  rw [show k24.sz = 3 from rfl, add_field _ _ 2 (by omega)] at hv
  replace hv := Option.some.inj (hv.symm.trans h2)
  injection hv with ha hn hc
  rw [ha] at ge
  rw [hc] at ul
  simp only [Int.toNat_natCast] at h0 h1 h2
  exact ⟨ad, A3, c3, rfl, h0, h1, h2, hl, Kd.V_mk ul ge⟩
end Go.Proofs.Ytecplbgdalchdaa.Q
/- Proved here: the contracts of slices.IndexFunc and slices.ContainsFunc over bindings. Conditions: those that each theorem names. -/
namespace Go.Proofs.Ytecplbgdalchdaa.Q
open Go.RowKit Go.Proofs.YtecplbgdalchdaaW.PrintWords Go.Proofs.YtecplbgdalchdaaW.PrintMore
set_option linter.unusedVariables false
set_option linter.unusedSimpArgs false

end Go.Proofs.Ytecplbgdalchdaa.Q
/- Proved here: the contract of types.valid. Conditions: those that each theorem names. -/
namespace Go.Proofs.Ytecplbgdalchdaa.Q
open Go.RowKit Go.Proofs.YtecplbgdalchdaaW.PrintWords Go.Proofs.YtecplbgdalchdaaW.PrintMore
set_option linter.unusedVariables false
set_option linter.unusedSimpArgs false

/-! ### valid -/
end Go.Proofs.Ytecplbgdalchdaa.Q
/- Proved here: the contract of types.find. Conditions: those that each theorem names. -/
namespace Go.Proofs.Ytecplbgdalchdaa.Q
open Go.RowKit Go.Proofs.YtecplbgdalchdaaW.PrintWords Go.Proofs.YtecplbgdalchdaaW.PrintMore
set_option linter.unusedVariables false
set_option linter.unusedSimpArgs false

/-! ### find -/
end Go.Proofs.Ytecplbgdalchdaa.Q
namespace Go.Proofs.Ytecplbgdalchdaa.Q
open Go.RowKit Go.Proofs.YtecplbgdalchdaaW.PrintWords Go.Proofs.YtecplbgdalchdaaW.PrintMore
set_option linter.unusedVariables false
set_option linter.unusedSimpArgs false

/-- What is asked of a predicate at one element: it reads, it may make memory. -/
def PredTM (g : Nat) (lb : Array Value) (x : S27) (b : Bool) (w : World) : Prop :=
  ∀ (W : World) (A4 : Option Addr) (c4 : Nat) (A6 : Option Addr) (c6 : Nat), Below w.heap.size w W → x.f2.f2.length ≤ c4 → k24.C W A4 x.f2.f2.length x.f2.f2 → x.f4.length ≤ c6 → k27.C W A6 x.f4.length x.f4 → Calls Try.prog g (#[.agg #[.int .u8 x.f0, .string x.f1, .bool x.f2.f0, .string x.f2.f1, .slice A4 x.f2.f2.length c4, .int .i64 x.f3, .slice A6 x.f4.length c6]] ++ lb) W fun e W' => e = .returned (.bool b) ∧ Below w.heap.size w W'

set_option maxHeartbeats 1000000 in
set_option maxRecDepth 100000 in
theorem indexFunc_TM (g : Nat) (lb : Array Value) (eg : ∀ args w, (callFunc g args).run Try.prog w = .ok (.enter g args) w) (o : S27 → Option Bool) (w : World) (A : Option Addr) (c : Nat) (l : List S27) (r : Int)
    (hC : Kd.C k27 w A l.length l) (hp : ∀ x, x ∈ l → ∀ b, o x = some b → PredTM g lb x b w) (h : indexO o l 0 = some r) :
    Calls Try.prog 194 #[.slice A l.length c, .func (.func g) #[] lb] w fun e w' => e = .returned (.int .i64 r) ∧ Below w.heap.size w w' := by
  have hm : l.length ≤ 9223372036854775807 := hC.2.1
  have HC := Aside0.mk hC
  have HP := Aside0.mk hp
  have HI := Aside0.mk h
  clear hC hp h
  go_enter Try.func194, Try.ntmps194
  go_wp2
  go_loopg [5, 8] l.length (fun gg _ s8 wr => ∃ kk : Nat, kk ≤ l.length ∧ l.length - kk ≤ gg ∧ s8 = .int .i64 kk ∧ Aside0 (Below w.heap.size w wr) ∧ Aside0 (indexO o (l.drop kk) (kk : Int) = some r))
  case atStart => exact ⟨0, Nat.zero_le _, by omega, rfl, ⟨Below.refl _ w⟩, ⟨HI.out⟩⟩
  case round =>
    obtain ⟨kk, hkk, hg, rfl, HB, HA⟩ := hrel
    clear HI
    by_cases hlt : kk < l.length
    · have hltz : (kk : Int) < (l.length : Int) := by omega
      obtain ⟨ad, A4, c4, A6, c6, e1, hx0, hx1, hx2, hx3, hx4, hx5, hx6, hl4, hi4, hl6, hi6⟩ := at_T27 (Kd.C_below HC.out HB.out) (kk : Int) (by omega) hltz
      cases e1
      have hA := HA.out
      rw [drop_rd l z27 kk hlt] at hA
      have hmem : l.getD kk z27 ∈ l := getD_mem l z27 kk hlt
      have hP := HP.out _ hmem
      simp only [Int.toNat_natCast] at hx0 hx1 hx2 hx3 hx4 hx5 hx6
      have HX : Hid ((rd_T27 l kk) = l.getD kk z27) := rfl
      rw [← HX.out] at hA hP
      clear hmem HA HP
      simp only [indexO] at hA
      generalize rd_T27 l kk = x at *
      cases hq : o x with
      | none => rw [hq] at hA; simp at hA
      | some b =>
        rw [hq] at hA
        simp only [Option.bind_some] at hA
        have hcall := hP b hq wr A4 c4 A6 c6 HB.out hl4 hi4 hl6 hi6
        have HA := Aside0.mk hA
        clear hA hP hq hl4 hi4 hl6 hi6
        cases b with
        | true =>
          go_wp2_with (go_at_fn g; refine hcall.mono ?_; rintro e w' ⟨rfl, hb'⟩)
          go_ret
          have hA := HA.out
          simp only [if_true, Option.some.injEq] at hA
          exact ⟨by rw [← hA]; rfl, hb'⟩
        | false =>
          go_wp2_with (go_at_fn g; refine hcall.mono ?_; rintro e w' ⟨rfl, hb'⟩)
          go_roundg (l.length - (kk + 1))
          case measure => omega
          case rel =>
            have hA := HA.out
            simp only [Bool.false_eq_true, if_false] at hA
            exact ⟨kk + 1, by omega, by omega, by go_num, ⟨hb'⟩, ⟨by push_cast; exact hA⟩⟩
    · have hltz : ¬ (kk : Int) < (l.length : Int) := by omega
      go_wp2
      go_ret
      have hA := HA.out
      rw [List.drop_of_length_le (by omega)] at hA
      simp only [indexO, Option.some.injEq] at hA
      exact ⟨by rw [← hA]; rfl, HB.out⟩

set_option maxHeartbeats 1000000 in
theorem containsFunc_TM (g : Nat) (lb : Array Value) (eg : ∀ args w, (callFunc g args).run Try.prog w = .ok (.enter g args) w) (o : S27 → Option Bool) (w : World) (A : Option Addr) (c : Nat) (l : List S27) (r : Bool)
    (hC : Kd.C k27 w A l.length l) (hp : ∀ x, x ∈ l → ∀ b, o x = some b → PredTM g lb x b w) (h : containsO o l = some r) :
    Calls Try.prog 144 #[.slice A l.length c, .func (.func g) #[] lb] w fun e w' => e = .returned (.bool r) ∧ Below w.heap.size w w' := by
  obtain ⟨i, hi, hr⟩ := containsO_index h 0 (Int.le_refl 0)
  have hcall := indexFunc_TM g lb eg o w A c l i hC hp hi
  have hd : decide (0 ≤ i) = r := hr
  have HR := Aside0.mk hr
  clear hC hp h hi hd hr
  go_enter Try.func144, Try.ntmps144
  go_wp2_with (go_at_call 194; refine hcall.mono ?_; rintro e w' ⟨rfl, hb⟩)
  go_ret
  exact ⟨by rw [← HR.out]; rfl, hb⟩
end Go.Proofs.Ytecplbgdalchdaa.Q
