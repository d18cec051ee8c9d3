/- Proved here: the contract of types.find. Conditions: those that each theorem names. -/
import Derived.Test.YtgnklkmifcmlhaaHKit
import Derived.Test.YtgnklkmifcmlhaaHIdxTB
namespace Go.Proofs.Ytgnklkmifcmlhaa.Q
open Go.RowKit Go.Proofs.YtgnklkmifcmlhaaW.PrintWords Go.Proofs.YtgnklkmifcmlhaaW.PrintMore
set_option linter.unusedVariables false
set_option linter.unusedSimpArgs false

/-! ### find -/
def findP (a : ByteArray) (b : S59) : Bool := b.f0.toList == a.toList

theorem indexO_find {α : Type} (p : α → Bool) (z : α) : ∀ (l : List α) (i : Int), ∃ k, indexO (fun x => some (p x)) l i = some k ∧ ((l.find? p = none ∧ k = -1) ∨ ∃ j : Nat, j < l.length ∧ k = i + j ∧ l.find? p = some (l.getD j z))
  | [], i => ⟨-1, rfl, .inl ⟨rfl, rfl⟩⟩
  | x :: l, i => by
    cases h : p x with
    | true => exact ⟨i, by simp [indexO, h], .inr ⟨0, by simp, by simp, by simp [h]⟩⟩
    | false =>
      obtain ⟨k, hk, hr⟩ := indexO_find p z l (i + 1)
      refine ⟨k, by simp [indexO, h, hk], ?_⟩
      rcases hr with ⟨h1, h2⟩ | ⟨j, h1, h2, h3⟩
      · exact .inl ⟨by simp [h, h1], h2⟩
      · exact .inr ⟨j + 1, by simp; omega, by push_cast; omega, by simp [h, h3]⟩

set_option maxHeartbeats 1000000 in
theorem find1_pred (a : ByteArray) (B : Nat) (w : World) (hB : B < w.heap.size) (hcell : w.cell? ⟨B, 0, none⟩ = some (.string a)) (x : S59) : PredTB 126 #[.pointer (some ⟨B, 0, none⟩)] x (findP a x) w := by
  intro W A c hb hl hC
  have hc : W.cell? ⟨B, 0, none⟩ = some (.string a) := (hb.cell (p := ⟨B, 0, none⟩) hB).trans hcell
  have hBW : B < W.heap.size := Nat.lt_of_lt_of_le hB hb.size
  have hne : B ≠ W.heap.size := by omega
  have HB := Aside0.mk hb
  clear hcell hl hC hb
  show Calls Try.prog 126 #[.agg #[.string x.f0, .bool x.f1.f0, .string x.f1.f1, .slice A x.f1.f2.length c], .pointer (some ⟨B, 0, none⟩)] W _
  go_enter Try.func126, Try.ntmps126
  go_wp2
  go_ret
  exact ⟨by simp [findP], HB.out.alloc HB.out.size _⟩

def types_find.f (l0 : List S59) (a1 : ByteArray) : Option (Bool × ByteArray × List (S25) × Bool) :=
  match l0.find? (findP a1) with
  | some b => some (b.f1.f0, b.f1.f1, b.f1.f2, true)
  | none => some (false, ⟨#[]⟩, [], false)

set_option maxHeartbeats 1000000 in
set_option maxRecDepth 100000 in
theorem types_find.calls (P0_ : Nat → Prop) (A0 : Option Addr) (c0 : Nat) (l0 : List (S59)) (a1 : ByteArray) (r1 : Bool) (r2 : ByteArray) (r3 : List (S25)) (r4 : Bool) (w : World) (hs0 : Kd.V k59 59 w w.heap.size (fun k_ => P0_ k_) (.slice A0 l0.length c0) l0) (h : types_find.f l0 a1 = some (r1, r2, r3, r4)) :
    Calls Try.prog 100 #[.slice A0 l0.length c0, .string a1] w fun e w' => ∃ v2_ : Value, e = .returned (.tuple #[.agg #[.bool r1, .string r2, v2_], .bool r4]) ∧ Kd.V k25 25 w' w.heap.size (fun k_ => (P0_ k_ ∨ w.heap.size ≤ k_)) v2_ r3 ∧ Below w.heap.size w w' := by
  have hu := Try.underlying25
  obtain ⟨i, hi, hr⟩ := indexO_find (findP a1) z59 l0 0
  have hcon := fun (W : World) (hb : Below w.heap.size w W) (B : Nat) (hB : B < W.heap.size) (hcell : W.cell? ⟨B, 0, none⟩ = some (.string a1)) =>
    indexFunc_TB 126 #[.pointer (some ⟨B, 0, none⟩)] (enters_of Try.func126 (by kernel_rfl) rfl) (fun x => some (findP a1 x)) W A0 c0 l0 i (Kd.C_below (Kd.V_reads' hs0).2.2 hb)
      (fun x _ b hx => by have := find1_pred a1 B W hB hcell x; rwa [Option.some.inj hx] at this) hi
  have hcon2 := hcon ((w.alloc (.cells #[.string a1] 9)).alloc (.cells #[.bool false, .string (⟨#[]⟩ : ByteArray), .slice none 0 0] 25)) (((Below.refl _ w).alloc (Nat.le_refl _) _).alloc (by simp) _) w.heap.size (by simp; omega) (by simp)
  have HS := Aside0.mk hs0
  have HF := Aside0.mk h
  clear hcon hs0 h hi
  have hm : l0.length ≤ 9223372036854775807 := (Kd.V_reads' HS.out).2.2.2.1
  rcases hr with ⟨hn, hr⟩ | ⟨k, hr1, hr, hf⟩
  · have hneg : decide (i < 0) = true := by rw [hr]; rfl
    have hF := HF.out
    simp only [types_find.f, hn, Option.some.injEq, Prod.mk.injEq] at hF
    obtain ⟨rfl, rfl, rfl, rfl⟩ := hF
    clear hr HF hn
    go_enter Try.func100, Try.ntmps100
    go_wp2_with (go_at_call 125; refine hcon2.mono ?_; rintro e w1 ⟨rfl, hb1⟩; have hbw := below_step (below_two _ _) hb1; have BK := blk_below (blk_top (.cells #[.string a1] 9) (.cells #[.bool false, .string (⟨#[]⟩ : ByteArray), .slice none 0 0] 25)) hb1; obtain ⟨z0, z1, z2, f0, f1, f2⟩ := box3 BK)
    refine bodyPost_ret (results_ct rfl _ _ (w.heap.size + 1) 25 #[.bool false, .string (⟨#[]⟩ : ByteArray), .slice none 0 0] (0, 0) _ rfl (set3 BK) hu rfl (by kernel_rfl)) rfl ?_
    exact ⟨_, rfl, Kd.V_nil _ _ _ _ _, below_set (below_set (below_set hbw (by omega)) (by omega)) (by omega)⟩
  · have hF := HF.out
    simp only [types_find.f, hf, Option.some.injEq, Prod.mk.injEq] at hF
    obtain ⟨rfl, rfl, rfl, rfl⟩ := hF
    clear HF hf
    obtain rfl : i = (k : Int) := by omega
    clear hr
    have hpos : decide ((k : Int) < 0) = false := by simp
    obtain ⟨ad, A3, c3, rfl, h0, h1, h2, h3, hl3, hV3⟩ := tb_elem HS.out k (by omega)
    have HV := Aside0.mk hV3
    clear hV3 hl3
    rw [show l0.getD k z59 = rd_T59 l0 k from rfl]
    generalize rd_T59 l0 k = x at *
    have hne : ad.block ≠ w.heap.size + 1 := by have := World.block_lt_of_cell? w _ h0; rw [add_block] at this; omega
    go_enter Try.func100, Try.ntmps100
    go_wp2_with (go_at_call 125; refine hcon2.mono ?_; rintro e w1 ⟨rfl, hb1⟩; have hbw := below_step (below_two _ _) hb1; have BK := blk_below (blk_top (.cells #[.string a1] 9) (.cells #[.bool false, .string (⟨#[]⟩ : ByteArray), .slice none 0 0] 25)) hb1; obtain ⟨z0, z1, z2, f0, f1, f2⟩ := box3 BK; replace h0 := pw_cell_below hbw h0; replace h1 := pw_cell_below hbw h1; replace h2 := pw_cell_below hbw h2; replace h3 := pw_cell_below hbw h3)
    refine bodyPost_ret (results_ct rfl _ _ (w.heap.size + 1) 25 #[.bool x.f1.f0, .string x.f1.f1, .slice A3 x.f1.f2.length c3] (0, 0) _ rfl (set3 BK) hu rfl (by kernel_rfl)) rfl ?_
    have hV1 := Kd.V_below (Kd.V_bound HV.out) hbw
    have hV2 := fun v0 v1 v2 => Kd.V_far (p := ⟨w.heap.size + 1, 2, none⟩) (Kd.V_far (p := ⟨w.heap.size + 1, 1, none⟩) (Kd.V_far (p := ⟨w.heap.size + 1, 0, none⟩) hV1 (fun k hk => by have := hk.2; show k ≠ w.heap.size + 1; omega) v0) (fun k hk => by have := hk.2; show k ≠ w.heap.size + 1; omega) v1) (fun k hk => by have := hk.2; show k ≠ w.heap.size + 1; omega) v2
    exact ⟨_, rfl, Kd.V_mono (hV2 _ _ _) (fun k hk => .inl hk.1), below_set (below_set (below_set hbw (by omega)) (by omega)) (by omega)⟩
/-- find, for the walk: its result's row is read in the world behind the call. -/
theorem find_at (A : Option Addr) (c : Nat) (s : List S59) (a : ByteArray) (r1 : Bool) (r2 : ByteArray) (r3 : List S25) (r4 : Bool) (W : World) (hs : k59.C W A s.length s) (hc : s.length ≤ c) (h : types_find.f s a = some (r1, r2, r3, r4)) :
    Calls Try.prog 100 #[.slice A s.length c, .string a] W fun e W' => ∃ A3 c3, e = .returned (.tuple #[.agg #[.bool r1, .string r2, .slice A3 r3.length c3], .bool r4]) ∧ r3.length ≤ c3 ∧ k25.C W' A3 r3.length r3 ∧ Below W.heap.size W W' := by
  refine (types_find.calls _ A c s a r1 r2 r3 r4 W (tb_V hs hc) h).mono ?_
  rintro e W' ⟨v, he, hV, hb⟩
  obtain ⟨A3, c3, rfl, hl, hF⟩ := hV
  exact ⟨A3, c3, he, hl, Kd.F_now hF, hb⟩

end Go.Proofs.Ytgnklkmifcmlhaa.Q
