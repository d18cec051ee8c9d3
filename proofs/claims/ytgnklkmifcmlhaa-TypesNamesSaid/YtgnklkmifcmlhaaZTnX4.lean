/- Proved here: parts of the proof of a given statement (HRowTypesNames): contracts of the functions that it reaches, what they answer, and in the last text the statement itself. Conditions: those that each theorem names. -/
import Derived.Test.YtgnklkmifcmlhaaZTnX3
import Derived.Deep.LoopGhost
import Derived.Lib.Hide
import Derived.Shelf.RegionOpenPlain
/- Proved here: what slices.IndexFunc and slices.ContainsFunc answer, and small facts on blocks of memory. Conditions: those that each theorem names. -/
namespace Go.Proofs.Ytgnklkmifcmlhaa.Q
open Go.RowKit Go.Proofs.YtgnklkmifcmlhaaW.PrintWords Go.Proofs.YtgnklkmifcmlhaaW.PrintMore
set_option linter.unusedVariables false
set_option linter.unusedSimpArgs false

/-! ### What slices.IndexFunc and slices.ContainsFunc answer, the predicate being told where it is -/
def indexO {α : Type} (o : α → Option Bool) : List α → Int → Option Int
  | [], _ => some (-1)
  | x :: l, i => (o x).bind fun b => if b = true then some i else indexO o l (i + 1)
def containsO {α : Type} (o : α → Option Bool) : List α → Option Bool
  | [] => some false
  | x :: l => (o x).bind fun b => if b = true then some true else containsO o l
theorem containsO_index {α : Type} {o : α → Option Bool} {l : List α} {r : Bool} (h : containsO o l = some r) (i : Int) (hi : 0 ≤ i) : ∃ k, indexO o l i = some k ∧ decide (0 ≤ k) = r := by
  induction l generalizing i with
  | nil =>
    simp only [containsO, Option.some.injEq] at h
    exact ⟨-1, rfl, by rw [← h]; rfl⟩
  | cons x l ih =>
    simp only [containsO] at h
    cases hx : o x with
    | none => rw [hx] at h; simp at h
    | some b =>
      rw [hx] at h
      simp only [Option.bind_some] at h
      cases b with
      | true =>
        simp only [if_true, Option.some.injEq] at h
        exact ⟨i, by simp [indexO, hx], by rw [← h]; simpa using hi⟩
      | false =>
        simp only [Bool.false_eq_true, if_false] at h
        obtain ⟨k, hk, hr⟩ := ih h (i + 1) (by omega)
        exact ⟨k, by simp [indexO, hx, hk], hr⟩
theorem drop_rd {α : Type} (l : List α) (z : α) (k : Nat) (h : k < l.length) : l.drop k = l.getD k z :: l.drop (k + 1) := by
  rw [List.drop_eq_getElem_cons h, List.getD_eq_getElem?_getD, List.getElem?_eq_getElem h]
  rfl
theorem getD_mem {α : Type} (l : List α) (z : α) (k : Nat) (h : k < l.length) : l.getD k z ∈ l := by
  rw [List.getD_eq_getElem?_getD, List.getElem?_eq_getElem h]
  exact List.getElem_mem h

/-! ### Blocks of a few cells -/
theorem box1 {w : World} {g : Nat} {t : TypeId} {a : Value} (h : w.heap[g]? = some (.cells #[a] t (0, 0))) : w.cell? ⟨g, 0, none⟩ = some a ∧ w.frozen? ⟨g, 0, none⟩ = false := ⟨(blk_cell h 0).trans rfl, blk_frozen h 0⟩
theorem box3 {w : World} {g : Nat} {t : TypeId} {a b c : Value} (h : w.heap[g]? = some (.cells #[a, b, c] t (0, 0))) :
    w.cell? ⟨g, 0, none⟩ = some a ∧ w.cell? ⟨g, 1, none⟩ = some b ∧ w.cell? ⟨g, 2, none⟩ = some c ∧ w.frozen? ⟨g, 0, none⟩ = false ∧ w.frozen? ⟨g, 1, none⟩ = false ∧ w.frozen? ⟨g, 2, none⟩ = false :=
  ⟨(blk_cell h 0).trans rfl, (blk_cell h 1).trans rfl, (blk_cell h 2).trans rfl, blk_frozen h 0, blk_frozen h 1, blk_frozen h 2⟩
/-- Three stores into a block of three cells. -/
theorem set3 {w : World} {g : Nat} {t : TypeId} {a b c a' b' c' : Value} (h : w.heap[g]? = some (.cells #[a, b, c] t (0, 0))) :
    (((w.setCell ⟨g, 0, none⟩ a').setCell ⟨g, 1, none⟩ b').setCell ⟨g, 2, none⟩ c').heap[g]? = some (.cells #[a', b', c'] t (0, 0)) :=
  blk_put (cs := #[a', b', c]) (blk_put (cs := #[a', b, c]) (blk_put (cs := #[a, b, c]) h 0 _ rfl) 1 _ rfl) 2 _ rfl
theorem blk_mid {w : World} (o o' : Obj) : ((w.alloc o).alloc o').heap[w.heap.size]? = some o := blk_alloc (blk_new w o) o'
theorem blk_top {w : World} (o o' : Obj) : ((w.alloc o).alloc o').heap[w.heap.size + 1]? = some o' := by have := blk_new (w.alloc o) o'; simpa using this
theorem below_two {w : World} (o o' : Obj) : Below w.heap.size w ((w.alloc o).alloc o') := ((Below.refl _ w).alloc (Nat.le_refl _) _).alloc (by simp) _
theorem below_one {w : World} (o : Obj) : Below w.heap.size w (w.alloc o) := (Below.refl _ w).alloc (Nat.le_refl _) _

/-- Element i of a row of bindings that is told by V: its cells; what its type leads to, told by V, too. -/
theorem tb_elem {w : World} {base : Nat} {ok : Nat → Prop} {A : Option Addr} {c : Nat} {l : List S59} (h : Kd.V k59 59 w base ok (.slice A l.length c) l) (i : Nat) (hi : i < l.length) :
    ∃ ad A3 c3, A = some ad ∧ w.cell? (ad.add (i * 4)) = some (.string (rd_T59 l i).f0) ∧ w.cell? ⟨(ad.add (i * 4)).block, (ad.add (i * 4)).off + 1, none⟩ = some (.bool (rd_T59 l i).f1.f0) ∧
      w.cell? ⟨(ad.add (i * 4)).block, (ad.add (i * 4)).off + 2, none⟩ = some (.string (rd_T59 l i).f1.f1) ∧ w.cell? ⟨(ad.add (i * 4)).block, (ad.add (i * 4)).off + 3, none⟩ = some (.slice A3 (rd_T59 l i).f1.f2.length c3) ∧
      (rd_T59 l i).f1.f2.length ≤ c3 ∧ Kd.V k25 25 w base ok (.slice A3 (rd_T59 l i).f1.f2.length c3) (rd_T59 l i).f1.f2 := by
  obtain ⟨ad, A3, c3, rfl, h0, h1, h2, h3, hl, hi3⟩ := at_T59 (Kd.V_reads' h).2.2 (i : Int) (by omega) (by omega)
  obtain ⟨ce, hce, hM, hcc⟩ := Kd.V_get h z59 (i : Int) (by omega) (by omega)
  obtain ⟨ua, uc, rfl, ul, ge⟩ := k59_openF hM
  have hv := hcc 3 _ rfl
  rw [show k59.sz = 4 from rfl, add_field _ _ 3 (by omega)] at hv
  replace hv := Option.some.inj (hv.symm.trans h3)
  injection hv with ha hn hc
  rw [ha] at ge
  rw [hc] at ul
  simp only [Int.toNat_natCast] at h0 h1 h2 h3
  exact ⟨ad, A3, c3, rfl, h0, h1, h2, h3, hl, Kd.V_mk ul ge⟩
theorem tb_V {w : World} {base : Nat} {A : Option Addr} {c : Nat} {l : List S59} (h : k59.C w A l.length l) (hc : l.length ≤ c) : Kd.V k59 59 w base (fun k => k < w.heap.size) (.slice A l.length c) l :=
  Kd.V_mk hc (Kd.C_F k59_heap h)
end Go.Proofs.Ytgnklkmifcmlhaa.Q
/- Proved here: the contracts of slices.IndexFunc and slices.ContainsFunc over bindings. Conditions: those that each theorem names. -/
namespace Go.Proofs.Ytgnklkmifcmlhaa.Q
open Go.RowKit Go.Proofs.YtgnklkmifcmlhaaW.PrintWords Go.Proofs.YtgnklkmifcmlhaaW.PrintMore
set_option linter.unusedVariables false
set_option linter.unusedSimpArgs false

/-- What is asked of a predicate at one element: it reads, it may make memory. -/
def PredTB (g : Nat) (lb : Array Value) (x : S59) (b : Bool) (w : World) : Prop :=
  ∀ (W : World) (A3 : Option Addr) (c3 : Nat), Below w.heap.size w W → x.f1.f2.length ≤ c3 → k25.C W A3 x.f1.f2.length x.f1.f2 → Calls Try.prog g (#[.agg #[.string x.f0, .bool x.f1.f0, .string x.f1.f1, .slice A3 x.f1.f2.length c3]] ++ lb) W fun e W' => e = .returned (.bool b) ∧ Below w.heap.size w W'

set_option maxHeartbeats 1000000 in
set_option maxRecDepth 100000 in
theorem indexFunc_TB (g : Nat) (lb : Array Value) (eg : ∀ args w, (callFunc g args).run Try.prog w = .ok (.enter g args) w) (o : S59 → Option Bool) (w : World) (A : Option Addr) (c : Nat) (l : List S59) (r : Int)
    (hC : Kd.C k59 w A l.length l) (hp : ∀ x, x ∈ l → ∀ b, o x = some b → PredTB g lb x b w) (h : indexO o l 0 = some r) :
    Calls Try.prog 125 #[.slice A l.length c, .func (.func g) #[] lb] w fun e w' => e = .returned (.int .i64 r) ∧ Below w.heap.size w w' := by
  have hm : l.length ≤ 9223372036854775807 := hC.2.1
  have HC := Aside0.mk hC
  have HP := Aside0.mk hp
  have HI := Aside0.mk h
  clear hC hp h
  go_enter Try.func125, Try.ntmps125
  go_wp2
  go_loopg [5, 8] l.length (fun gg _ s8 wr => ∃ kk : Nat, kk ≤ l.length ∧ l.length - kk ≤ gg ∧ s8 = .int .i64 kk ∧ Aside0 (Below w.heap.size w wr) ∧ Aside0 (indexO o (l.drop kk) (kk : Int) = some r))
  case atStart => exact ⟨0, Nat.zero_le _, by omega, rfl, ⟨Below.refl _ w⟩, ⟨HI.out⟩⟩
  case round =>
    obtain ⟨kk, hkk, hg, rfl, HB, HA⟩ := hrel
    clear HI
    by_cases hlt : kk < l.length
    · have hltz : (kk : Int) < (l.length : Int) := by omega
      obtain ⟨ad, A3, c3, e1, hx0, hx1, hx2, hx3, hl3, hi3⟩ := at_T59 (Kd.C_below HC.out HB.out) (kk : Int) (by omega) hltz
      cases e1
      have hA := HA.out
      rw [drop_rd l z59 kk hlt] at hA
      have hmem : l.getD kk z59 ∈ l := getD_mem l z59 kk hlt
      have hP := HP.out _ hmem
      simp only [Int.toNat_natCast] at hx0 hx1 hx2 hx3
      have HX : Hid ((rd_T59 l kk) = l.getD kk z59) := rfl
      rw [← HX.out] at hA hP
      clear hmem HA HP
      simp only [indexO] at hA
      generalize rd_T59 l kk = x at *
      cases hq : o x with
      | none => rw [hq] at hA; simp at hA
      | some b =>
        rw [hq] at hA
        simp only [Option.bind_some] at hA
        have hcall := hP b hq wr A3 c3 HB.out hl3 hi3
        have HA := Aside0.mk hA
        clear hA hP hq hl3 hi3
        cases b with
        | true =>
          go_wp2_with (go_at_fn g; refine hcall.mono ?_; rintro e w' ⟨rfl, hb'⟩)
          go_ret
          have hA := HA.out
          simp only [if_true, Option.some.injEq] at hA
          exact ⟨by rw [← hA]; rfl, hb'⟩
        | false =>
          go_wp2_with (go_at_fn g; refine hcall.mono ?_; rintro e w' ⟨rfl, hb'⟩)
          go_roundg (l.length - (kk + 1))
          case measure => omega
          case rel =>
            have hA := HA.out
            simp only [Bool.false_eq_true, if_false] at hA
            exact ⟨kk + 1, by omega, by omega, by go_num, ⟨hb'⟩, ⟨by push_cast; exact hA⟩⟩
    · have hltz : ¬ (kk : Int) < (l.length : Int) := by omega
      go_wp2
      go_ret
      have hA := HA.out
      rw [List.drop_of_length_le (by omega)] at hA
      simp only [indexO, Option.some.injEq] at hA
      exact ⟨by rw [← hA]; rfl, HB.out⟩

set_option maxHeartbeats 1000000 in
theorem containsFunc_TB (g : Nat) (lb : Array Value) (eg : ∀ args w, (callFunc g args).run Try.prog w = .ok (.enter g args) w) (o : S59 → Option Bool) (w : World) (A : Option Addr) (c : Nat) (l : List S59) (r : Bool)
    (hC : Kd.C k59 w A l.length l) (hp : ∀ x, x ∈ l → ∀ b, o x = some b → PredTB g lb x b w) (h : containsO o l = some r) :
    Calls Try.prog 97 #[.slice A l.length c, .func (.func g) #[] lb] w fun e w' => e = .returned (.bool r) ∧ Below w.heap.size w w' := by
  obtain ⟨i, hi, hr⟩ := containsO_index h 0 (Int.le_refl 0)
  have hcall := indexFunc_TB g lb eg o w A c l i hC hp hi
  have hd : decide (0 ≤ i) = r := hr
  have HR := Aside0.mk hr
  clear hC hp h hi hd hr
  go_enter Try.func97, Try.ntmps97
  go_wp2_with (go_at_call 125; refine hcall.mono ?_; rintro e w' ⟨rfl, hb⟩)
  go_ret
  exact ⟨by rw [← HR.out]; rfl, hb⟩
end Go.Proofs.Ytgnklkmifcmlhaa.Q
/- Proved here: the contract of types.valid. Conditions: those that each theorem names. -/
namespace Go.Proofs.Ytgnklkmifcmlhaa.Q
open Go.RowKit Go.Proofs.YtgnklkmifcmlhaaW.PrintWords Go.Proofs.YtgnklkmifcmlhaaW.PrintMore
set_option linter.unusedVariables false
set_option linter.unusedSimpArgs false

/-! ### valid -/
def oddBind (k : Nat) (x : S59) : Option Bool := (types_variable.f k x.f0).bind fun v => if v = true then (types_Check.f k x.f1.f0 x.f1.f1 x.f1.f2).bind fun e => some (decide (e ≠ 0)) else some true
set_option maxHeartbeats 1000000 in
theorem valid1_pred (k : Nat) (x : S59) (b : Bool) (h : oddBind k x = some b) (w : World) : PredTB 98 #[] x b w := by
  intro W A c hb hl hC
  show Calls Try.prog 98 #[.agg #[.string x.f0, .bool x.f1.f0, .string x.f1.f1, .slice A x.f1.f2.length c]] W _
  cases hv : types_variable.f k x.f0 with
  | none => rw [oddBind, hv] at h; simp at h
  | some v =>
    rw [oddBind, hv] at h
    simp only [Option.bind_some] at h
    have hcv := fun W' => types_variable.calls k x.f0 v W' hv
    have HB := Aside0.mk hb
    clear hv hb
    cases v with
    | false =>
      simp only [Bool.false_eq_true, if_false, Option.some.injEq] at h
      subst h
      clear hl hC
      go_enter Try.func98, Try.ntmps98
      go_wp2_with (go_at_call 99; refine (hcv _).mono ?_; rintro e w1 ⟨rfl, ⟨m, rfl⟩⟩)
      go_ret
      exact ⟨rfl, pw_below_drewN (HB.out.alloc HB.out.size _) m⟩
    | true =>
      simp only [if_true] at h
      cases he : types_Check.f k x.f1.f0 x.f1.f1 x.f1.f2 with
      | none => rw [he] at h; simp at h
      | some e =>
        rw [he] at h
        simp only [Option.bind_some, Option.some.injEq] at h
        have hce := fun W' (hw : Below W.heap.size W W') => types_Check.calls k x.f1.f0 x.f1.f1 A c x.f1.f2 e W' (Kd.C_below hC hw) hl he
        have HH := Aside0.mk h
        clear he h hl hC
        by_cases hz : e = 0
        · obtain rfl := hz
          have h := HH.out
          simp at h
          subst h
          clear HH
          go_enter Try.func98, Try.ntmps98
          go_wp2_with (first | (go_at_call 99; refine (hcv _).mono ?_; rintro e w1 ⟨rfl, ⟨m, rfl⟩⟩) | (go_at_call 28; refine (hce _ (pw_below_drewN (below_one _) _)).mono ?_; rintro e w1 ⟨rfl, hb1⟩))
          go_ret
          exact ⟨rfl, HB.out.trans (below_step (pw_below_drewN (below_one _) _) hb1 |>.mono HB.out.size)⟩
        · have h := HH.out
          simp [hz] at h
          subst h
          have hz1 : (e != 0) = true := bne_iff_ne.mpr hz
          have hz2 : (e == 0) = false := beq_eq_false_iff_ne.mpr hz
          clear HH
          go_enter Try.func98, Try.ntmps98
          go_wp2_with (first | (go_at_call 99; refine (hcv _).mono ?_; rintro e w1 ⟨rfl, ⟨m, rfl⟩⟩) | (go_at_call 28; refine (hce _ (pw_below_drewN (below_one _) _)).mono ?_; rintro e w1 ⟨rfl, hb1⟩))
          go_ret
          exact ⟨rfl, HB.out.trans (below_step (pw_below_drewN (below_one _) _) hb1 |>.mono HB.out.size)⟩

def types_valid.f (k : Nat) (l0 : List S59) : Option Bool := (containsO (oddBind k) l0).bind fun b => some (!b)
set_option maxHeartbeats 1000000 in
theorem types_valid.calls (k : Nat) (A0 : Option Addr) (c0 : Nat) (l0 : List (S59)) (r : Bool) (w : World) (hr0 : Kd.C k59 w A0 l0.length l0) (hc0 : l0.length ≤ c0) (h : types_valid.f k l0 = some r) :
    Calls Try.prog 57 #[.slice A0 l0.length c0] w fun e w' => e = .returned (.bool r) ∧ Below w.heap.size w w' := by
  cases hc : containsO (oddBind k) l0 with
  | none => rw [types_valid.f, hc] at h; simp at h
  | some b =>
    rw [types_valid.f, hc] at h
    simp only [Option.bind_some, Option.some.injEq] at h
    subst h
    have hcall := containsFunc_TB 98 #[] (enters_of Try.func98 (by kernel_rfl) rfl) (oddBind k) w A0 c0 l0 b hr0 (fun x _ b hx => valid1_pred k x b hx w) hc
    clear hc hr0 hc0
    go_enter Try.func57, Try.ntmps57
    go_wp2_with (go_at_call 97; refine hcall.mono ?_; rintro e w1 ⟨rfl, hb1⟩)
    go_ret
    exact ⟨rfl, hb1⟩
end Go.Proofs.Ytgnklkmifcmlhaa.Q
/- Proved here: the contract of types.find. Conditions: those that each theorem names. -/
namespace Go.Proofs.Ytgnklkmifcmlhaa.Q
open Go.RowKit Go.Proofs.YtgnklkmifcmlhaaW.PrintWords Go.Proofs.YtgnklkmifcmlhaaW.PrintMore
set_option linter.unusedVariables false
set_option linter.unusedSimpArgs false

/-! ### find -/
def findP (a : ByteArray) (b : S59) : Bool := b.f0.toList == a.toList

theorem indexO_find {α : Type} (p : α → Bool) (z : α) : ∀ (l : List α) (i : Int), ∃ k, indexO (fun x => some (p x)) l i = some k ∧ ((l.find? p = none ∧ k = -1) ∨ ∃ j : Nat, j < l.length ∧ k = i + j ∧ l.find? p = some (l.getD j z))
  | [], i => ⟨-1, rfl, .inl ⟨rfl, rfl⟩⟩
  | x :: l, i => by
    cases h : p x with
    | true => exact ⟨i, by simp [indexO, h], .inr ⟨0, by simp, by simp, by simp [h]⟩⟩
    | false =>
      obtain ⟨k, hk, hr⟩ := indexO_find p z l (i + 1)
      refine ⟨k, by simp [indexO, h, hk], ?_⟩
      rcases hr with ⟨h1, h2⟩ | ⟨j, h1, h2, h3⟩
      · exact .inl ⟨by simp [h, h1], h2⟩
      · exact .inr ⟨j + 1, by simp; omega, by push_cast; omega, by simp [h, h3]⟩

set_option maxHeartbeats 1000000 in
theorem find1_pred (a : ByteArray) (B : Nat) (w : World) (hB : B < w.heap.size) (hcell : w.cell? ⟨B, 0, none⟩ = some (.string a)) (x : S59) : PredTB 126 #[.pointer (some ⟨B, 0, none⟩)] x (findP a x) w := by
  intro W A c hb hl hC
  have hc : W.cell? ⟨B, 0, none⟩ = some (.string a) := (hb.cell (p := ⟨B, 0, none⟩) hB).trans hcell
  have hBW : B < W.heap.size := Nat.lt_of_lt_of_le hB hb.size
  have hne : B ≠ W.heap.size := by omega
  have HB := Aside0.mk hb
  clear hcell hl hC hb
  show Calls Try.prog 126 #[.agg #[.string x.f0, .bool x.f1.f0, .string x.f1.f1, .slice A x.f1.f2.length c], .pointer (some ⟨B, 0, none⟩)] W _
  go_enter Try.func126, Try.ntmps126
  go_wp2
  go_ret
  exact ⟨by simp [findP], HB.out.alloc HB.out.size _⟩

def types_find.f (l0 : List S59) (a1 : ByteArray) : Option (Bool × ByteArray × List (S25) × Bool) :=
  match l0.find? (findP a1) with
  | some b => some (b.f1.f0, b.f1.f1, b.f1.f2, true)
  | none => some (false, ⟨#[]⟩, [], false)

set_option maxHeartbeats 1000000 in
set_option maxRecDepth 100000 in
theorem types_find.calls (P0_ : Nat → Prop) (A0 : Option Addr) (c0 : Nat) (l0 : List (S59)) (a1 : ByteArray) (r1 : Bool) (r2 : ByteArray) (r3 : List (S25)) (r4 : Bool) (w : World) (hs0 : Kd.V k59 59 w w.heap.size (fun k_ => P0_ k_) (.slice A0 l0.length c0) l0) (h : types_find.f l0 a1 = some (r1, r2, r3, r4)) :
    Calls Try.prog 100 #[.slice A0 l0.length c0, .string a1] w fun e w' => ∃ v2_ : Value, e = .returned (.tuple #[.agg #[.bool r1, .string r2, v2_], .bool r4]) ∧ Kd.V k25 25 w' w.heap.size (fun k_ => (P0_ k_ ∨ w.heap.size ≤ k_)) v2_ r3 ∧ Below w.heap.size w w' := by
  have hu := Try.underlying25
  obtain ⟨i, hi, hr⟩ := indexO_find (findP a1) z59 l0 0
  have hcon := fun (W : World) (hb : Below w.heap.size w W) (B : Nat) (hB : B < W.heap.size) (hcell : W.cell? ⟨B, 0, none⟩ = some (.string a1)) =>
    indexFunc_TB 126 #[.pointer (some ⟨B, 0, none⟩)] (enters_of Try.func126 (by kernel_rfl) rfl) (fun x => some (findP a1 x)) W A0 c0 l0 i (Kd.C_below (Kd.V_reads' hs0).2.2 hb)
      (fun x _ b hx => by have := find1_pred a1 B W hB hcell x; rwa [Option.some.inj hx] at this) hi
  have hcon2 := hcon ((w.alloc (.cells #[.string a1] 9)).alloc (.cells #[.bool false, .string (⟨#[]⟩ : ByteArray), .slice none 0 0] 25)) (((Below.refl _ w).alloc (Nat.le_refl _) _).alloc (by simp) _) w.heap.size (by simp; omega) (by simp)
  have HS := Aside0.mk hs0
  have HF := Aside0.mk h
  clear hcon hs0 h hi
  have hm : l0.length ≤ 9223372036854775807 := (Kd.V_reads' HS.out).2.2.2.1
  rcases hr with ⟨hn, hr⟩ | ⟨k, hr1, hr, hf⟩
  · have hneg : decide (i < 0) = true := by rw [hr]; rfl
    have hF := HF.out
    simp only [types_find.f, hn, Option.some.injEq, Prod.mk.injEq] at hF
    obtain ⟨rfl, rfl, rfl, rfl⟩ := hF
    clear hr HF hn
    go_enter Try.func100, Try.ntmps100
    go_wp2_with (go_at_call 125; refine hcon2.mono ?_; rintro e w1 ⟨rfl, hb1⟩; have hbw := below_step (below_two _ _) hb1; have BK := blk_below (blk_top (.cells #[.string a1] 9) (.cells #[.bool false, .string (⟨#[]⟩ : ByteArray), .slice none 0 0] 25)) hb1; obtain ⟨z0, z1, z2, f0, f1, f2⟩ := box3 BK)
    refine bodyPost_ret (results_ct rfl _ _ (w.heap.size + 1) 25 #[.bool false, .string (⟨#[]⟩ : ByteArray), .slice none 0 0] (0, 0) _ rfl (set3 BK) hu rfl (by kernel_rfl)) rfl ?_
    exact ⟨_, rfl, Kd.V_nil _ _ _ _ _, below_set (below_set (below_set hbw (by omega)) (by omega)) (by omega)⟩
  · have hF := HF.out
    simp only [types_find.f, hf, Option.some.injEq, Prod.mk.injEq] at hF
    obtain ⟨rfl, rfl, rfl, rfl⟩ := hF
    clear HF hf
    obtain rfl : i = (k : Int) := by omega
    clear hr
    have hpos : decide ((k : Int) < 0) = false := by simp
    obtain ⟨ad, A3, c3, rfl, h0, h1, h2, h3, hl3, hV3⟩ := tb_elem HS.out k (by omega)
    have HV := Aside0.mk hV3
    clear hV3 hl3
    rw [show l0.getD k z59 = rd_T59 l0 k from rfl]
    generalize rd_T59 l0 k = x at *
    have hne : ad.block ≠ w.heap.size + 1 := by have := World.block_lt_of_cell? w _ h0; rw [add_block] at this; omega
    go_enter Try.func100, Try.ntmps100
    go_wp2_with (go_at_call 125; refine hcon2.mono ?_; rintro e w1 ⟨rfl, hb1⟩; have hbw := below_step (below_two _ _) hb1; have BK := blk_below (blk_top (.cells #[.string a1] 9) (.cells #[.bool false, .string (⟨#[]⟩ : ByteArray), .slice none 0 0] 25)) hb1; obtain ⟨z0, z1, z2, f0, f1, f2⟩ := box3 BK; replace h0 := pw_cell_below hbw h0; replace h1 := pw_cell_below hbw h1; replace h2 := pw_cell_below hbw h2; replace h3 := pw_cell_below hbw h3)
    refine bodyPost_ret (results_ct rfl _ _ (w.heap.size + 1) 25 #[.bool x.f1.f0, .string x.f1.f1, .slice A3 x.f1.f2.length c3] (0, 0) _ rfl (set3 BK) hu rfl (by kernel_rfl)) rfl ?_
    have hV1 := Kd.V_below (Kd.V_bound HV.out) hbw
    have hV2 := fun v0 v1 v2 => Kd.V_far (p := ⟨w.heap.size + 1, 2, none⟩) (Kd.V_far (p := ⟨w.heap.size + 1, 1, none⟩) (Kd.V_far (p := ⟨w.heap.size + 1, 0, none⟩) hV1 (fun k hk => by have := hk.2; show k ≠ w.heap.size + 1; omega) v0) (fun k hk => by have := hk.2; show k ≠ w.heap.size + 1; omega) v1) (fun k hk => by have := hk.2; show k ≠ w.heap.size + 1; omega) v2
    exact ⟨_, rfl, Kd.V_mono (hV2 _ _ _) (fun k hk => .inl hk.1), below_set (below_set (below_set hbw (by omega)) (by omega)) (by omega)⟩
/-- find, for the walk: its result's row is read in the world behind the call. -/
theorem find_at (A : Option Addr) (c : Nat) (s : List S59) (a : ByteArray) (r1 : Bool) (r2 : ByteArray) (r3 : List S25) (r4 : Bool) (W : World) (hs : k59.C W A s.length s) (hc : s.length ≤ c) (h : types_find.f s a = some (r1, r2, r3, r4)) :
    Calls Try.prog 100 #[.slice A s.length c, .string a] W fun e W' => ∃ A3 c3, e = .returned (.tuple #[.agg #[.bool r1, .string r2, .slice A3 r3.length c3], .bool r4]) ∧ r3.length ≤ c3 ∧ k25.C W' A3 r3.length r3 ∧ Below W.heap.size W W' := by
  refine (types_find.calls _ A c s a r1 r2 r3 r4 W (tb_V hs hc) h).mono ?_
  rintro e W' ⟨v, he, hV, hb⟩
  obtain ⟨A3, c3, rfl, hl, hF⟩ := hV
  exact ⟨A3, c3, he, hl, Kd.F_now hF, hb⟩

end Go.Proofs.Ytgnklkmifcmlhaa.Q
