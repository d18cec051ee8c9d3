/- Proved here: parts of the proof of a given statement (HRowSignatureTells): contracts of the functions that it reaches, what they answer, and in the last text the statement itself. Conditions: those that each theorem names. -/
import Derived.Test.YtecplbgdalchdaaZSTX9
import Derived.WideMake
import Derived.Deep.CutRange
import Derived.Test.YtecplbgdalchdaaZSTX4
import Derived.Test.YtecplbgdalchdaaZSTX7
import Derived.Test.YtecplbgdalchdaaZSTX3
/- Proved here: the contract of signature.tabled. Conditions: those that each theorem names. -/
namespace Go.Proofs.Ytecplbgdalchdaa.Q
open Go.RowKit Go.Shelf Go.Proofs.YtecplbgdalchdaaW.PrintWords Go.Proofs.YtecplbgdalchdaaW.PrintMore
set_option linter.unusedVariables false
set_option linter.unusedSimpArgs false
attribute [local go_sem] Oper.semAt_some
attribute [local go_sem] run_makeMap_plain

theorem drop_op (l : List S106) (k : Nat) (h : k < l.length) : l.drop k = rd_T106 l (k : Int) :: l.drop (k + 1) := by
  rw [List.drop_eq_getElem_cons h]
  simp [rd_T106, h]
theorem drop_co (l : List S108) (k : Nat) (h : k < l.length) : l.drop k = rd_T108 l (k : Int) :: l.drop (k + 1) := by
  rw [List.drop_eq_getElem_cons h]
  simp [rd_T108, h]
theorem box4k {w : World} {g : Nat} {t : TypeId} {a b c d : Value} (h : w.heap[g]? = some (.cells #[a, b, c, d] t (0, 0))) : w.cell? ⟨g, 0, none⟩ = some a ∧ w.cell? ⟨g, 1, none⟩ = some b ∧ w.cell? ⟨g, 2, none⟩ = some c ∧ w.cell? ⟨g, 3, none⟩ = some d :=
  ⟨(blk_cell h 0).trans rfl, (blk_cell h 1).trans rfl, (blk_cell h 2).trans rfl, (blk_cell h 3).trans rfl⟩
/-- The state of tabled. -/
abbrev TbS (w v : World) (xo : Obj) (m1 m2 : Nat) (d1 : List (ByteArray × Int)) (d2 : List (ByteArray × (S24 × Option Addr × Nat))) (W : World) : Prop :=
  W.heap[w.heap.size]? = some xo ∧ W.heap[w.heap.size + 1]? = some (.cells #[.map (some m1), .map (some m2)] 163) ∧ ArIs W m1 d1 ∧ CoIs W m2 d2 ∧ TyOk v d2 ∧ Below w.heap.size w W ∧ w.heap.size + 1 < m1 ∧ m1 < m2
section
variable {w v W W1 : World} {xo : Obj} {m1 m2 : Nat} {d1 d1' : List (ByteArray × Int)} {d2 d2' : List (ByteArray × (S24 × Option Addr × Nat))}
theorem TbS.below (h : TbS w v xo m1 m2 d1 d2 W) : Below w.heap.size w W := h.2.2.2.2.2.1
theorem TbS.step (h : TbS w v xo m1 m2 d1 d2 W) (hb : Below W.heap.size W W1) : TbS w v xo m1 m2 d1 d2 W1 := by
  obtain ⟨h1, h2, h3, h4, h5, h6, h7⟩ := h
  exact ⟨blk_below h1 hb, blk_below h2 hb, MapIs.later h3 hb, MapIs.later h4 hb, h5, below_step h6 hb, h7⟩
theorem But.blk' {m k : Nat} {w w' : World} {o : Obj} (h : But m w w') (hk : w.heap[k]? = some o) (hm : k ≠ m) : w'.heap[k]? = some o := (h.block k (Array.getElem?_eq_some_iff.1 hk).1 hm).trans hk
theorem TbS.put1 (h : TbS w v xo m1 m2 d1 d2 W) (hs : ArIs W1 m1 d1') (hb : But m1 W W1) : TbS w v xo m1 m2 d1' d2 W1 := by
  obtain ⟨h1, h2, h3, h4, h5, h6, h7, h8⟩ := h
  exact ⟨hb.blk' h1 (by omega), hb.blk' h2 (by omega), hs, MapIs.step h4 (hb.block _ h4.lt (by omega)), h5, But.below h6 hb (by omega) (Nat.le_refl _), h7, h8⟩
theorem TbS.put2 (h : TbS w v xo m1 m2 d1 d2 W) (hs : CoIs W1 m2 d2') (hb : But m2 W W1) (ht : TyOk v d2') : TbS w v xo m1 m2 d1 d2' W1 := by
  obtain ⟨h1, h2, h3, h4, h5, h6, h7, h8⟩ := h
  exact ⟨hb.blk' h1 (by omega), hb.blk' h2 (by omega), MapIs.step h3 (hb.block _ h3.lt (by omega)), hs, ht, But.below h6 hb (by omega) (Nat.le_refl _), h7, h8⟩
theorem TbS.made (w v : World) (xo : Obj) : TbS w v xo (w.heap.size + 1 + 1) (w.heap.size + 1 + 1 + 1) [] [] ((((w.alloc xo).alloc (.cells #[.map (some (w.heap.size + 1 + 1)), .map (some (w.heap.size + 1 + 1 + 1))] 163)).alloc (.map #[] 0)).alloc (.map #[] 0)) := by
  have h1 := below_one (w := w) xo
  have h2 := below_one (w := w.alloc xo) (.cells #[.map (some (w.heap.size + 1 + 1)), .map (some (w.heap.size + 1 + 1 + 1))] 163)
  have h3 := below_one (w := (w.alloc xo).alloc (.cells #[.map (some (w.heap.size + 1 + 1)), .map (some (w.heap.size + 1 + 1 + 1))] 163)) (.map #[] 0)
  have h4 := below_one (w := ((w.alloc xo).alloc (.cells #[.map (some (w.heap.size + 1 + 1)), .map (some (w.heap.size + 1 + 1 + 1))] 163)).alloc (.map #[] 0)) (.map #[] 0)
  have hx := (two_new w xo (.cells #[.map (some (w.heap.size + 1 + 1)), .map (some (w.heap.size + 1 + 1 + 1))] 163)).2
  have e2 : ((w.alloc xo).alloc (.cells #[.map (some (w.heap.size + 1 + 1)), .map (some (w.heap.size + 1 + 1 + 1))] 163)).heap.size = w.heap.size + 1 + 1 := (Array.size_push _).trans (congrArg (· + 1) (Array.size_push _))
  have e3 : (((w.alloc xo).alloc (.cells #[.map (some (w.heap.size + 1 + 1)), .map (some (w.heap.size + 1 + 1 + 1))] 163)).alloc (.map #[] 0)).heap.size = w.heap.size + 1 + 1 + 1 := (Array.size_push _).trans (congrArg (· + 1) e2)
  have g1 : ArIs (((w.alloc xo).alloc (.cells #[.map (some (w.heap.size + 1 + 1)), .map (some (w.heap.size + 1 + 1 + 1))] 163)).alloc (.map #[] 0)) (w.heap.size + 1 + 1) [] := by
    have := MapIs.new encS ((w.alloc xo).alloc (.cells #[.map (some (w.heap.size + 1 + 1)), .map (some (w.heap.size + 1 + 1 + 1))] 163))
    rwa [e2] at this
  have g2 : CoIs ((((w.alloc xo).alloc (.cells #[.map (some (w.heap.size + 1 + 1)), .map (some (w.heap.size + 1 + 1 + 1))] 163)).alloc (.map #[] 0)).alloc (.map #[] 0)) (w.heap.size + 1 + 1 + 1) [] := by
    have := MapIs.new encS (((w.alloc xo).alloc (.cells #[.map (some (w.heap.size + 1 + 1)), .map (some (w.heap.size + 1 + 1 + 1))] 163)).alloc (.map #[] 0))
    rwa [e3] at this
  exact ⟨blk_below (blk_below hx.1 h3) h4, blk_below (blk_below hx.2 h3) h4, MapIs.later g1 h4, g2, fun p hp => by simp at hp, below_step (below_step (below_step h1 h2) h3) h4, Nat.lt_succ_self _, Nat.lt_succ_self _⟩
end
theorem But.set {g i : Nat} {W : World} (v : Value) : But g W (W.setCell ⟨g, i, none⟩ v) :=
  have hB := (Below.refl g W).setCell (p := ⟨g, i, none⟩) (Nat.le_refl g) v
  ⟨hB.os, hB.tape, hB.output, hB.size, fun k hk hne => Below.heap_setCell W ⟨g, i, none⟩ v k hne⟩
def LenR (m : Nat) (e : Array MapEntry) (k : Nat) (W : World) : Prop := W.heap[m]? = some (.map e k)
theorem LenR.ar {m : Nat} {e : Array MapEntry} {k : Nat} {W : World} (h : LenR m e k W) : (Builtin.len_ #[160] 3 #[.map (some m)]).run Try.prog W = .ok (goInt e.size) W := Go.run_len_map W 160 3 m e k (by kernel_rfl) h
theorem LenR.co {m : Nat} {e : Array MapEntry} {k : Nat} {W : World} (h : LenR m e k W) : (Builtin.len_ #[161] 3 #[.map (some m)]).run Try.prog W = .ok (goInt e.size) W := Go.run_len_map W 161 3 m e k (by kernel_rfl) h
/-- The state of tabled's last statement. -/
abbrev TbR (w W0 : World) (v0 v1 : Value) (m1 m2 : Nat) (e1 : Array MapEntry) (k1 : Nat) (e2 : Array MapEntry) (k2 : Nat) (W : World) : Prop :=
  W.cell? ⟨w.heap.size, 0, none⟩ = some v0 ∧ W.cell? ⟨w.heap.size, 1, none⟩ = some v1 ∧ W.cell? ⟨w.heap.size + 1, 0, none⟩ = some (.map (some m1)) ∧ W.cell? ⟨w.heap.size + 1, 1, none⟩ = some (.map (some m2)) ∧
    W.frozen? ⟨w.heap.size + 1, 0, none⟩ = false ∧ W.frozen? ⟨w.heap.size + 1, 1, none⟩ = false ∧ (Builtin.len_ #[160] 3 #[.map (some m1)]).run Try.prog W = .ok (goInt e1.size) W ∧ (Builtin.len_ #[161] 3 #[.map (some m2)]).run Try.prog W = .ok (goInt e2.size) W ∧ LenR m1 e1 k1 W ∧ LenR m2 e2 k2 W ∧ But (w.heap.size + 1) W0 W ∧ W.heap[w.heap.size + 1]? = some (.cells #[.map (some m1), .map (some m2)] 163) ∧ W.heap[w.heap.size]? = some (.cells #[v0, v1] 94) ∧ w.heap.size + 1 < m1 ∧ m1 < m2
section
variable {w W0 W : World} {v0 v1 : Value} {m1 m2 : Nat} {e1 e2 : Array MapEntry} {k1 k2 : Nat}
theorem TbR.mk' (hx : W0.heap[w.heap.size]? = some (.cells #[v0, v1] 94)) (h1 : W0.heap[m1]? = some (.map e1 k1)) (h2 : W0.heap[m2]? = some (.map e2 k2)) (ht : W0.heap[w.heap.size + 1]? = some (.cells #[.map (some m1), .map (some m2)] 163)) (hm : w.heap.size + 1 < m1 ∧ m1 < m2)
    (hb : But (w.heap.size + 1) W0 W) (ht' : W.heap[w.heap.size + 1]? = some (.cells #[.map (some m1), .map (some m2)] 163)) : TbR w W0 v0 v1 m1 m2 e1 k1 e2 k2 W := by
  have hx' := hb.blk' hx (by omega)
  obtain ⟨a0, a1, _, _⟩ := box2k hx'
  obtain ⟨b0, b1, b2, b3⟩ := box2k ht'
  have g1 : LenR m1 e1 k1 W := hb.blk' h1 (by omega)
  have g2 : LenR m2 e2 k2 W := hb.blk' h2 (by omega)
  exact ⟨a0, a1, b0, b1, b2, b3, g1.ar, g2.co, g1, g2, hb, ht', hx', hm⟩
theorem TbR.drew (h : TbR w W0 v0 v1 m1 m2 e1 k1 e2 k2 W) : TbR w W0 v0 v1 m1 m2 e1 k1 e2 k2 W.drew := by
  obtain ⟨h0, h1, h2, h3, h4, h5, _, _, h6, h7, h8, h9, h10, h11⟩ := h
  have hb := But.of (m := w.heap.size + 1) (below_drew1 (Below.refl W.heap.size W))
  have g1 : LenR m1 e1 k1 W.drew := hb.blk' h6 (by omega)
  have g2 : LenR m2 e2 k2 W.drew := hb.blk' h7 (by omega)
  exact ⟨h0, h1, h2, h3, h4, h5, g1.ar, g2.co, g1, g2, h8.trans hb, h9, h10, h11⟩
theorem TbR.store (h : TbR w W0 v0 v1 m1 m2 e1 k1 e2 k2 W) : TbR w W0 v0 v1 m1 m2 e1 k1 e2 k2 ((W.setCell ⟨w.heap.size + 1, 0, none⟩ (.map (some m1))).setCell ⟨w.heap.size + 1, 1, none⟩ (.map (some m2))) := by
  obtain ⟨h0, h1, h2, h3, h4, h5, _, _, h6, h7, h8, h9, h10, h11⟩ := h
  have hb : But (w.heap.size + 1) W ((W.setCell ⟨w.heap.size + 1, 0, none⟩ (.map (some m1))).setCell ⟨w.heap.size + 1, 1, none⟩ (.map (some m2))) := (But.set _).trans (But.set _)
  have ht' := blk_put (cs := #[.map (some m1), .map (some m2)]) (blk_put (cs := #[.map (some m1), .map (some m2)]) h9 0 (.map (some m1)) rfl) 1 (.map (some m2)) rfl
  have hx' := hb.blk' h10 (by omega)
  obtain ⟨a0, a1, _, _⟩ := box2k hx'
  obtain ⟨b0, b1, b2, b3⟩ := box2k ht'
  have g1 : LenR m1 e1 k1 _ := hb.blk' h6 (by omega)
  have g2 : LenR m2 e2 k2 _ := hb.blk' h7 (by omega)
  exact ⟨a0, a1, b0, b1, b2, b3, g1.ar, g2.co, g1, g2, h8.trans hb, ht', hx', h11⟩
end
theorem TbR.blkT {w W0 W : World} {v0 v1 : Value} {m1 m2 : Nat} {e1 e2 : Array MapEntry} {k1 k2 : Nat} (h : TbR w W0 v0 v1 m1 m2 e1 k1 e2 k2 W) : W.heap[w.heap.size + 1]? = some (.cells #[.map (some m1), .map (some m2)] 163) := by
  obtain ⟨h0, h1, h2, h3, h4, h5, _, _, h6, h7, h8, h9, h10, h11⟩ := h
  exact h9
theorem TbR.done {w v W0 W : World} {xo : Obj} {v0 v1 : Value} {m1 m2 : Nat} {e1 e2 : Array MapEntry} {k1 k2 : Nat} {d1 : List (ByteArray × Int)} {d2 : List (ByteArray × (S24 × Option Addr × Nat))} {D : List (ByteArray × S24)} {q q' : Bool} (h : TbR w W0 v0 v1 m1 m2 e1 k1 e2 k2 W) (hC : TbS w v xo m1 m2 d1 d2 W0) (hD : bareK d2 = D) (hq : q = q') :
    ∃ m1' m2' d2', Ending.returned (.tuple #[.agg #[.map (some m1), .map (some m2)], .bool q]) = .returned (.tuple #[.agg #[.map (some m1'), .map (some m2')], .bool q']) ∧ ArIs W m1' d1 ∧ CoIs W m2' d2' ∧ bareK d2' = D ∧ TyOk v d2' ∧ Below w.heap.size w W := by
  obtain ⟨h0, h1, h2, h3, h4, h5, _, _, h6, h7, h8, h9, h10, h11, h12⟩ := h
  obtain ⟨g1, g2, g3, g4, g5, g6, g7⟩ := hC
  have hb := But.below g6 h8 (by omega) (Nat.le_refl _)
  exact ⟨m1, m2, d2, by rw [hq], MapIs.step g3 (h8.block _ g3.lt (by omega)), MapIs.step g4 (h8.block _ g4.lt (by omega)), hD, g5, hb⟩
set_option maxHeartbeats 8000000 in
set_option maxRecDepth 100000 in
theorem tabled_calls (A0 : Option Addr) (c0 : Nat) (l0 : List S106) (A1 : Option Addr) (c1 : Nat) (l1 : List S108) (v w : World) (hv : Below v.heap.size v w) (hr0 : Kd.C k106 v A0 l0.length l0) (hc0 : l0.length ≤ c0) (hr1 : Kd.C k108 v A1 l1.length l1) (hc1 : l1.length ≤ c1) :
    Calls Try.prog 195 #[.agg #[.slice A0 l0.length c0, .slice A1 l1.length c1]] w fun e w' => ∃ m1 m2 d2, e = .returned (.tuple #[.agg #[.map (some m1), .map (some m2)], .bool (decide ((arD [] l0).length = l0.length) && decide ((coD [] l1).length = l1.length))]) ∧
      ArIs w' m1 (arD [] l0) ∧ CoIs w' m2 d2 ∧ bareK d2 = coD [] l1 ∧ TyOk v d2 ∧ Below w.heap.size w w' := by
  have BX := blk_new w (.cells #[.slice A0 l0.length c0, .slice A1 l1.length c1] 94)
  obtain ⟨x0, x1, x2, x3⟩ := box2k BX
  have HA0 := Aside0.mk hr0
  have HA1 := Aside0.mk hr1
  clear hr0 hr1
  go_enter Try.func195, Try.ntmps195
  go_wp2_with fail
  have hS0 := TbS.made w v (.cells #[.slice A0 l0.length c0, .slice A1 l1.length c1] 94)
  clear BX x0 x1 x2 x3
  generalize ((((w.alloc (.cells #[.slice A0 l0.length c0, .slice A1 l1.length c1] 94)).alloc (.cells #[.map (some (w.heap.size + 1 + 1)), .map (some (w.heap.size + 1 + 1 + 1))] 163)).alloc (.map #[] 0)).alloc (.map #[] 0)) = W0 at hS0 ⊢
  generalize w.heap.size + 1 + 1 + 1 = m2 at hS0 ⊢
  generalize w.heap.size + 1 + 1 = m1 at hS0 ⊢
  obtain ⟨xo, hxo⟩ : ∃ xo, xo = Obj.cells #[.slice A0 l0.length c0, .slice A1 l1.length c1] 94 := ⟨_, rfl⟩
  rw [← hxo] at hS0
  replace hS0 := Aside0.mk hS0
  have HXO := Aside0.mk hxo
  clear hxo
  go_loopg [14] l0.length (fun gg v14 wr => ∃ (kk : Nat) (d : List (ByteArray × Int)), kk ≤ l0.length ∧ gg + kk = l0.length ∧ v14 = .int .i64 (kk : Int) ∧ Aside0 (TbS w v xo m1 m2 d [] wr ∧ arD d (l0.drop kk) = arD [] l0))
  case atStart => exact ⟨0, [], by omega, by omega, rfl, ⟨hS0.out, rfl⟩⟩
  case round =>
    obtain ⟨kk, d, hk1, hk2, rfl, hT⟩ := hrel
    clear hS0
    obtain ⟨hC, hF⟩ := hT.out
    clear hT
    have hbx := box2k hC.2.1
    obtain ⟨t0, t1, t2, t3⟩ := hbx
    by_cases hkk : kk < l0.length
    · have q0 : decide (kk < l0.length) = true := decide_eq_true hkk
      have hx := at_T106 HA0.out (kk : Int) (by omega) (by omega)
      obtain ⟨ad, rfl, hx0, hx1⟩ := hx
      replace hx0 := pw_cell_below (below_step hv hC.below) hx0
      replace hx1 := pw_cell_below (below_step hv hC.below) hx1
      simp only [Int.toNat_natCast] at hx0 hx1
      rw [drop_op _ _ hkk] at hF
      generalize rd_T106 l0 (kk : Int) = a at *
      have BN := blk_new wr (.cells #[.string a.f0, .int .i64 a.f1] 106)
      have hbn := below_one (w := wr) (.cells #[.string a.f0, .int .i64 a.f1] 106)
      have hC5 := hC.step hbn
      obtain ⟨n0, n1, n2, n3⟩ := box2k BN
      obtain ⟨s0, s1, s2, s3⟩ := box2k hC5.2.1
      obtain ⟨o, r5, hs⟩ := ArIs.put hC5.2.2.1 a.f0 a.f1
      go_wp2_with fail
      go_roundg (l0.length - kk - 1)
      case measure => omega
      case rel => exact ⟨kk + 1, _, by omega, by omega, by (have := HA0.out.2.1); simp; exact w64 (by omega) (by omega), ⟨hC5.put1 hs (But.put _ _ _), hF⟩⟩
    · have q0 : decide (kk < l0.length) = false := decide_eq_false hkk
      obtain rfl : kk = l0.length := by omega
      rw [List.drop_length] at hF
      obtain rfl : d = arD [] l0 := hF
      have hbx := box2k (HXO.out ▸ hC.1)
      obtain ⟨x0, x1, x2, x3⟩ := hbx
      have hS0 := Aside0.mk hC
      clear hC hkk hk1 hk2
      go_wp2_with fail
      clear x0 x1 x2 x3 t0 t1 t2 t3
      go_loopg [28] l1.length (fun gg v28 wr => ∃ (kk : Nat) (d : List (ByteArray × (S24 × Option Addr × Nat))), kk ≤ l1.length ∧ gg + kk = l1.length ∧ v28 = .int .i64 (kk : Int) ∧ Aside0 (TbS w v xo m1 m2 (arD [] l0) d wr ∧ coD (bareK d) (l1.drop kk) = coD [] l1))
      case atStart => exact ⟨0, [], by omega, by omega, rfl, ⟨hS0.out, rfl⟩⟩
      case round =>
        obtain ⟨kk, d, hk1, hk2, rfl, hT⟩ := hrel
        clear hS0
        obtain ⟨hC, hF⟩ := hT.out
        clear hT
        have hbx := box2k hC.2.1
        obtain ⟨t0, t1, t2, t3⟩ := hbx
        by_cases hkk : kk < l1.length
        · have q0 : decide (kk < l1.length) = true := decide_eq_true hkk
          have hx := at_T108 HA1.out (kk : Int) (by omega) (by omega)
          obtain ⟨ad, A3, c3, rfl, hx0, hx1, hx2, hx3, hl3, hC3⟩ := hx
          replace hx0 := pw_cell_below (below_step hv hC.below) hx0
          replace hx1 := pw_cell_below (below_step hv hC.below) hx1
          replace hx2 := pw_cell_below (below_step hv hC.below) hx2
          replace hx3 := pw_cell_below (below_step hv hC.below) hx3
          simp only [Int.toNat_natCast] at hx0 hx1 hx2 hx3
          rw [drop_co _ _ hkk] at hF
          generalize rd_T108 l1 (kk : Int) = a at *
          have BN := blk_new wr (.cells #[.string a.f0, .bool a.f1.f0, .string a.f1.f1, .slice A3 a.f1.f2.length c3] 108)
          have hbn := below_one (w := wr) (.cells #[.string a.f0, .bool a.f1.f0, .string a.f1.f1, .slice A3 a.f1.f2.length c3] 108)
          have hC5 := hC.step hbn
          obtain ⟨n0, n1, n2, n3⟩ := box4k BN
          obtain ⟨s0, s1, s2, s3⟩ := box2k hC5.2.1
          obtain ⟨o, r5, hs⟩ := CoIs.put hC5.2.2.2.1 a.f0 a.f1 A3 c3
          go_wp2_with fail
          go_roundg (l1.length - kk - 1)
          case measure => omega
          case rel => exact ⟨kk + 1, _, by omega, by omega, by (have := HA1.out.2.1); simp; exact w64 (by omega) (by omega), ⟨hC5.put2 hs (But.put _ _ _) (TyOk.put hC5.2.2.2.2.1 hl3 hC3), by rw [bare_put]; exact hF⟩⟩
        · have q0 : decide (kk < l1.length) = false := decide_eq_false hkk
          obtain rfl : kk = l1.length := by omega
          rw [List.drop_length] at hF
          have hF' : bareK d = coD [] l1 := hF
          have hbx := box2k (HXO.out ▸ hC.1)
          obtain ⟨x0, x1, x2, x3⟩ := hbx
          go_wp2_with fail
          have hu1 := arU
          have hu2 := coU
          obtain ⟨e1, k1, hm1, hz1⟩ := map_size hC.2.2.1
          obtain ⟨e2, k2, hm2, hz2⟩ := map_size hC.2.2.2.1
          have hl1 : (valK (Value.int .i64) (arD [] l0)).length = (arD [] l0).length := by simp [valK]
          have hl2 : (valK tyV d).length = (coD [] l1).length := by rw [← hF', bare_len]; simp [valK]
          rw [hl1] at hz1
          rw [hl2] at hz2
          have HZ1 := Aside0.mk hz1
          have HZ2 := Aside0.mk hz2
          have HC := Aside0.mk hC
          have HF := Aside0.mk hF'
          have hR := TbR.mk' (HXO.out ▸ hC.1) hm1 hm2 hC.2.1 hC.2.2.2.2.2.2 (But.of (below_drew1 (Below.refl wr.heap.size wr))) (blk_below hC.2.1 (below_drew1 (Below.refl wr.heap.size wr)))
          have hR0 := TbR.mk' (HXO.out ▸ hC.1) hm1 hm2 hC.2.1 hC.2.2.2.2.2.2 (But.of (Below.refl wr.heap.size wr)) hC.2.1
          have hR1 := hR0.store.drew
          clear hR0
          clear hC hF hF' hz1 hz2 hl1 hl2 hkk hk1 hk2 hm1 hm2
          by_cases p1 : e1.size = l0.length
          · skip
            by_cases p2 : e2.size = l1.length
            · skip
              go_region_held3 (fun W => TbR w wr (.slice A0 l0.length c0) (.slice A1 l1.length c1) m1 m2 e1 k1 e2 k2 W)
                (first | (with_reducible exact hR) | (with_reducible assumption) | (with_reducible exact hR1))
                (fail)
              have hN : TbR w wr (.slice A0 l0.length c0) (.slice A1 l1.length c1) m1 m2 e1 k1 e2 k2 ((wr.setCell ⟨w.heap.size + 1, 0, none⟩ (.map (some m1))).setCell ⟨w.heap.size + 1, 1, none⟩ (.map (some m2))).drew := by with_reducible assumption
              clear hR hR1
              have HN := hN
              clear hN
              go_wp2
              refine bodyPost_ret (results_ct rfl _ _ (w.heap.size + 1) 163 #[.map (some m1), .map (some m2)] (0, 0) _ rfl HN.blkT Try.underlying163 rfl (by kernel_rfl)) rfl ?_
              exact TbR.done HN HC.out HF.out (by rw [← HZ1.out, ← HZ2.out, decide_eq_true p1, decide_eq_true p2]; rfl)
            · skip
              have p2' : ((e2.size : Int) == (l1.length : Int)) = false := by simp; omega
              have p2a : (e2.size == l1.length) = false := by simp; omega
              go_region_held3 (fun W => TbR w wr (.slice A0 l0.length c0) (.slice A1 l1.length c1) m1 m2 e1 k1 e2 k2 W)
                (first | (with_reducible exact hR) | (with_reducible assumption) | (with_reducible exact hR1))
                (fail)
              have hN : TbR w wr (.slice A0 l0.length c0) (.slice A1 l1.length c1) m1 m2 e1 k1 e2 k2 ((wr.setCell ⟨w.heap.size + 1, 0, none⟩ (.map (some m1))).setCell ⟨w.heap.size + 1, 1, none⟩ (.map (some m2))).drew := by with_reducible assumption
              clear hR hR1
              have HN := hN
              clear hN
              go_wp2
              refine bodyPost_ret (results_ct rfl _ _ (w.heap.size + 1) 163 #[.map (some m1), .map (some m2)] (0, 0) _ rfl HN.blkT Try.underlying163 rfl (by kernel_rfl)) rfl ?_
              exact TbR.done HN HC.out HF.out (by rw [← HZ1.out, ← HZ2.out, decide_eq_true p1, decide_eq_false p2]; rfl)
          · skip
            have p1' : ((e1.size : Int) == (l0.length : Int)) = false := by simp; omega
            have p1a : (e1.size == l0.length) = false := by simp; omega
            have p1b : decide (e1.size = l0.length) = false := decide_eq_false p1
            refine wp_region_held_drew (S := (fun W => TbR w wr (.slice A0 l0.length c0) (.slice A1 l1.length c1) m1 m2 e1 k1 e2 k2 W)) (by kernel_rfl) (by first | (with_reducible exact hR) | (with_reducible assumption)) (fun hHeld => ?_)
            refine wpAnyH_take (i := 0) (oi := { dst := some 39, op := Op.load 163 (Operand.tmp 2), type := 163, pos := "signature.go:27", after := #[], guard := none }) (v := ?_) rfl (by kernel_rfl) (by kernel_rfl) (by kernel_rfl) (fun _ _ _ h => h) (Or.inl ⟨by rfl, ?_⟩) (by assumption) ?_
            rotate_left
            · intro w' hSw
              (try dsimp only at hSw)
              go_simp
              try with_reducible rfl
            try simp only [Act.put, List.setIfInBounds_toArray, List.set_cons_zero, List.set_cons_succ]
            refine wpAnyH_take (i := 1) (oi := { dst := some 40, op := Op.fieldAddr 163 (Operand.tmp 2) 0, type := 0, pos := "signature.go:27", after := #[], guard := none }) (v := ?_) rfl (by kernel_rfl) (by kernel_rfl) (by kernel_rfl) (fun _ _ _ h => h) (Or.inl ⟨by rfl, ?_⟩) (by assumption) ?_
            rotate_left
            · intro w' hSw
              (try dsimp only at hSw)
              go_simp
              try with_reducible rfl
            try simp only [Act.put, List.setIfInBounds_toArray, List.set_cons_zero, List.set_cons_succ]
            refine wpAnyH_take (i := 2) (oi := { dst := some 41, op := Op.load 160 (Operand.tmp 40), type := 160, pos := "signature.go:27", after := #[{ on := 1, ground := Ground.data }], guard := none }) (v := ?_) rfl (by kernel_rfl) (by kernel_rfl) (by kernel_rfl) (fun _ _ _ h => h) (Or.inl ⟨by rfl, ?_⟩) (by assumption) ?_
            rotate_left
            · intro w' hSw
              (try dsimp only at hSw)
              go_simp
              try with_reducible rfl
            try simp only [Act.put, List.setIfInBounds_toArray, List.set_cons_zero, List.set_cons_succ]
            refine wpAnyH_take (i := 3) (oi := { dst := some 42, op := Op.call { callee := Callee.builtin Builtin.len, args := #[Operand.tmp 41], argTypes := #[160] }, type := 3, pos := "signature.go:27", after := #[{ on := 2, ground := Ground.data }], guard := none }) (v := ?_) rfl (by kernel_rfl) (by kernel_rfl) (by kernel_rfl) (fun _ _ _ h => h) (Or.inl ⟨by rfl, ?_⟩) (by assumption) ?_
            rotate_left
            · intro w' hSw
              (try dsimp only at hSw)
              go_simp
              try with_reducible rfl
            try simp only [Act.put, List.setIfInBounds_toArray, List.set_cons_zero, List.set_cons_succ]
            refine wpAnyH_take (i := 4) (oi := { dst := some 43, op := Op.fieldAddr 94 (Operand.tmp 1) 0, type := 0, pos := "signature.go:27", after := #[], guard := none }) (v := ?_) rfl (by kernel_rfl) (by kernel_rfl) (by kernel_rfl) (fun _ _ _ h => h) (Or.inl ⟨by rfl, ?_⟩) (by assumption) ?_
            rotate_left
            · intro w' hSw
              (try dsimp only at hSw)
              go_simp
              try with_reducible rfl
            try simp only [Act.put, List.setIfInBounds_toArray, List.set_cons_zero, List.set_cons_succ]
            refine wpAnyH_take (i := 5) (oi := { dst := some 44, op := Op.load 91 (Operand.tmp 43), type := 91, pos := "signature.go:27", after := #[{ on := 4, ground := Ground.data }], guard := none }) (v := ?_) rfl (by kernel_rfl) (by kernel_rfl) (by kernel_rfl) (fun _ _ _ h => h) (Or.inl ⟨by rfl, ?_⟩) (by assumption) ?_
            rotate_left
            · intro w' hSw
              (try dsimp only at hSw)
              go_simp
              try with_reducible rfl
            try simp only [Act.put, List.setIfInBounds_toArray, List.set_cons_zero, List.set_cons_succ]
            refine wpAnyH_take (i := 6) (oi := { dst := some 45, op := Op.call { callee := Callee.builtin Builtin.len, args := #[Operand.tmp 44], argTypes := #[91] }, type := 3, pos := "signature.go:27", after := #[{ on := 5, ground := Ground.data }], guard := none }) (v := ?_) rfl (by kernel_rfl) (by kernel_rfl) (by kernel_rfl) (fun _ _ _ h => h) (Or.inl ⟨by rfl, ?_⟩) (by assumption) ?_
            rotate_left
            · intro w' hSw
              (try dsimp only at hSw)
              go_simp
              try with_reducible rfl
            try simp only [Act.put, List.setIfInBounds_toArray, List.set_cons_zero, List.set_cons_succ]
            refine wpAnyH_take (i := 7) (oi := { dst := some 46, op := Op.binOp BinOp.eql 3 (Operand.tmp 42) (Operand.tmp 45) 3, type := 4, pos := "signature.go:27", after := #[{ on := 3, ground := Ground.data }, { on := 6, ground := Ground.data }], guard := none }) (v := ?_) rfl (by kernel_rfl) (by kernel_rfl) (by kernel_rfl) (fun _ _ _ h => h) (Or.inl ⟨by rfl, ?_⟩) (by assumption) ?_
            rotate_left
            · intro w' hSw
              (try dsimp only at hSw)
              go_simp
              try with_reducible rfl
            try simp only [Act.put, List.setIfInBounds_toArray, List.set_cons_zero, List.set_cons_succ]
            refine wpAnyH_take (i := 8) (oi := { dst := some 47, op := Op.move (Operand.tmp 46), type := 4, pos := "signature.go:27", after := #[{ on := 7, ground := Ground.data }, { on := 3, ground := Ground.chain }], guard := none }) (v := ?_) rfl (by kernel_rfl) (by kernel_rfl) (by kernel_rfl) (fun _ _ _ h => h) (Or.inl ⟨by rfl, ?_⟩) (by assumption) ?_
            rotate_left
            · intro w' hSw
              (try dsimp only at hSw)
              go_simp
              try with_reducible rfl
            try simp only [Act.put, List.setIfInBounds_toArray, List.set_cons_zero, List.set_cons_succ]
            refine wpAnyH_take (i := 9) (oi := { dst := some 48, op := Op.fieldAddr 163 (Operand.tmp 2) 1, type := 0, pos := "signature.go:27", after := #[{ on := 8, ground := Ground.guard }], guard := some (8, true) }) (v := undef) rfl (by kernel_rfl) (by kernel_rfl) (by kernel_rfl) (fun _ _ _ h => h) (Or.inr ⟨by rfl, rfl⟩) (by assumption) ?_
            try simp only [Act.put, List.setIfInBounds_toArray, List.set_cons_zero, List.set_cons_succ]
            refine wpAnyH_take (i := 10) (oi := { dst := some 49, op := Op.load 161 (Operand.tmp 48), type := 161, pos := "signature.go:27", after := #[{ on := 9, ground := Ground.data }, { on := 8, ground := Ground.guard }], guard := some (8, true) }) (v := undef) rfl (by kernel_rfl) (by kernel_rfl) (by kernel_rfl) (fun _ _ _ h => h) (Or.inr ⟨by rfl, rfl⟩) (by assumption) ?_
            try simp only [Act.put, List.setIfInBounds_toArray, List.set_cons_zero, List.set_cons_succ]
            refine wpAnyH_take (i := 11) (oi := { dst := some 50, op := Op.call { callee := Callee.builtin Builtin.len, args := #[Operand.tmp 49], argTypes := #[161] }, type := 3, pos := "signature.go:27", after := #[{ on := 10, ground := Ground.data }, { on := 8, ground := Ground.chain }, { on := 8, ground := Ground.guard }], guard := some (8, true) }) (v := undef) rfl (by kernel_rfl) (by kernel_rfl) (by kernel_rfl) (fun _ _ _ h => h) (Or.inr ⟨by rfl, rfl⟩) (by assumption) ?_
            try simp only [Act.put, List.setIfInBounds_toArray, List.set_cons_zero, List.set_cons_succ]
            refine wpAnyH_take (i := 12) (oi := { dst := some 51, op := Op.fieldAddr 94 (Operand.tmp 1) 1, type := 0, pos := "signature.go:27", after := #[{ on := 8, ground := Ground.guard }], guard := some (8, true) }) (v := undef) rfl (by kernel_rfl) (by kernel_rfl) (by kernel_rfl) (fun _ _ _ h => h) (Or.inr ⟨by rfl, rfl⟩) (by assumption) ?_
            try simp only [Act.put, List.setIfInBounds_toArray, List.set_cons_zero, List.set_cons_succ]
            refine wpAnyH_take (i := 13) (oi := { dst := some 52, op := Op.load 92 (Operand.tmp 51), type := 92, pos := "signature.go:27", after := #[{ on := 12, ground := Ground.data }, { on := 8, ground := Ground.guard }], guard := some (8, true) }) (v := undef) rfl (by kernel_rfl) (by kernel_rfl) (by kernel_rfl) (fun _ _ _ h => h) (Or.inr ⟨by rfl, rfl⟩) (by assumption) ?_
            try simp only [Act.put, List.setIfInBounds_toArray, List.set_cons_zero, List.set_cons_succ]
            refine wpAnyH_take (i := 14) (oi := { dst := some 53, op := Op.call { callee := Callee.builtin Builtin.len, args := #[Operand.tmp 52], argTypes := #[92] }, type := 3, pos := "signature.go:27", after := #[{ on := 13, ground := Ground.data }, { on := 8, ground := Ground.guard }], guard := some (8, true) }) (v := undef) rfl (by kernel_rfl) (by kernel_rfl) (by kernel_rfl) (fun _ _ _ h => h) (Or.inr ⟨by rfl, rfl⟩) (by assumption) ?_
            try simp only [Act.put, List.setIfInBounds_toArray, List.set_cons_zero, List.set_cons_succ]
            refine wpAnyH_take (i := 15) (oi := { dst := some 54, op := Op.binOp BinOp.eql 3 (Operand.tmp 50) (Operand.tmp 53) 3, type := 4, pos := "signature.go:27", after := #[{ on := 11, ground := Ground.data }, { on := 14, ground := Ground.data }, { on := 8, ground := Ground.guard }, { on := 17, ground := Ground.gcOnly Departure.lateStores }], guard := some (8, true) }) (v := undef) rfl (by kernel_rfl) (by kernel_rfl) (by kernel_rfl) (fun _ _ _ h => h) (Or.inr ⟨by rfl, rfl⟩) (by assumption) ?_
            try simp only [Act.put, List.setIfInBounds_toArray, List.set_cons_zero, List.set_cons_succ]
            refine wpAnyH_take (i := 16) (oi := { dst := some 55, op := Op.pick (Operand.tmp 47) (Operand.tmp 54) (Operand.const (Value.bool false)), type := 4, pos := "signature.go:27", after := #[{ on := 8, ground := Ground.data }, { on := 15, ground := Ground.data }, { on := 17, ground := Ground.gcOnly Departure.lateStores }], guard := none }) (v := ?_) rfl (by kernel_rfl) (by kernel_rfl) (by kernel_rfl) (fun _ _ _ h => h) (Or.inl ⟨by rfl, ?_⟩) (by assumption) ?_
            rotate_left
            · intro w' hSw
              (try dsimp only at hSw)
              go_simp
              try with_reducible rfl
            try simp only [Act.put, List.setIfInBounds_toArray, List.set_cons_zero, List.set_cons_succ]
            refine wpAnyH_ready (rs := [17]) (by kernel_rfl) (by simp) ?_
            refine AllReadyH.cons (o := { dst := none, op := Op.store 163 (Operand.tmp 2) (Operand.tmp 39), type := 0, pos := "signature.go:27", after := #[{ on := 0, ground := Ground.data }, { on := 11, ground := Ground.chain }, { on := 0, ground := Ground.phase }, { on := 1, ground := Ground.phase }, { on := 2, ground := Ground.phase }, { on := 3, ground := Ground.textOnly Departure.lateStoresUnsure }, { on := 4, ground := Ground.textOnly Departure.lateStores }, { on := 5, ground := Ground.textOnly Departure.lateStores }, { on := 6, ground := Ground.textOnly Departure.lateStoresUnsure }, { on := 7, ground := Ground.textOnly Departure.lateStores }, { on := 8, ground := Ground.textOnly Departure.lateStores }, { on := 9, ground := Ground.phase }, { on := 10, ground := Ground.phase }, { on := 11, ground := Ground.textOnly Departure.lateStoresUnsure }, { on := 12, ground := Ground.textOnly Departure.lateStores }, { on := 13, ground := Ground.textOnly Departure.lateStores }, { on := 14, ground := Ground.textOnly Departure.lateStoresUnsure }, { on := 15, ground := Ground.textOnly Departure.lateStores }, { on := 16, ground := Ground.textOnly Departure.lateStores }], guard := none }) rfl (fun K hK => ?_) AllReadyH.nil
            go_simp
            refine hK.out _ _ (by first | (with_reducible exact hR1) | (with_reducible exact hR) | (with_reducible assumption)) (fun hHeld => ?_)
            clear hK K
            try simp only [Act.put, List.setIfInBounds_toArray, List.set_cons_zero, List.set_cons_succ]
            refine wpAnyH_take (i := 18) (oi := { dst := some 3, op := Op.assign (Operand.tmp 55), type := 4, pos := "signature.go:27", after := #[{ on := 16, ground := Ground.data }, { on := 17, ground := Ground.chain }, { on := 0, ground := Ground.phase }, { on := 1, ground := Ground.phase }, { on := 2, ground := Ground.phase }, { on := 3, ground := Ground.phase }, { on := 4, ground := Ground.phase }, { on := 5, ground := Ground.phase }, { on := 6, ground := Ground.phase }, { on := 7, ground := Ground.phase }, { on := 8, ground := Ground.phase }, { on := 9, ground := Ground.phase }, { on := 10, ground := Ground.phase }, { on := 11, ground := Ground.phase }, { on := 12, ground := Ground.phase }, { on := 13, ground := Ground.phase }, { on := 14, ground := Ground.phase }, { on := 15, ground := Ground.phase }, { on := 16, ground := Ground.phase }, { on := 17, ground := Ground.phase }], guard := none }) (v := ?_) rfl (by kernel_rfl) (by kernel_rfl) (by kernel_rfl) (fun _ _ _ h => h) (Or.inl ⟨by rfl, ?_⟩) (by assumption) ?_
            rotate_left
            · intro w' hSw
              (try dsimp only at hSw)
              go_simp
              try with_reducible rfl
            try simp only [Act.put, List.setIfInBounds_toArray, List.set_cons_zero, List.set_cons_succ]
            refine wpAnyH_done (by kernel_rfl) ?_ _
            all_goals (have HN : TbR w wr (.slice A0 l0.length c0) (.slice A1 l1.length c1) m1 m2 e1 k1 e2 k2 ((wr.setCell ⟨w.heap.size + 1, 0, none⟩ (.map (some m1))).setCell ⟨w.heap.size + 1, 1, none⟩ (.map (some m2))).drew := hR1)
            all_goals clear hR hR1
            all_goals go_wp2
            all_goals refine bodyPost_ret (results_ct rfl _ _ (w.heap.size + 1) 163 #[.map (some m1), .map (some m2)] (0, 0) _ rfl HN.blkT Try.underlying163 rfl (by kernel_rfl)) rfl ?_
            all_goals exact TbR.done HN HC.out HF.out (by rw [← HZ1.out, decide_eq_false p1]; rfl)
end Go.Proofs.Ytecplbgdalchdaa.Q
/- Proved here: the contract of signature.check. Conditions: those that each theorem names. -/
namespace Go.Proofs.Ytecplbgdalchdaa.Q
open Go.RowKit Go.Shelf Go.Proofs.YtecplbgdalchdaaW.PrintWords Go.Proofs.YtecplbgdalchdaaW.PrintMore
set_option linter.unusedVariables false
set_option linter.unusedSimpArgs false
attribute [local go_sem] Oper.semAt_some

theorem operator_ev (n : ByteArray) (h : okS n) : Ev (fun k => signature_operator.f k n) (nmC n) := by
  have hN := check_ev ⟨false, n, []⟩ (fit_leaf _ _ h)
  rw [chk_leaf] at hN
  simp only [signature_operator.f]
  refine Ev.bind hN ((Ev.pure _).val ?_)
  cases nmC n <;> rfl
theorem operator_calls (n : ByteArray) (h : okS n) (w : World) : Calls Try.prog 197 #[.string n] w fun e w' => e = .returned (.bool (nmC n)) ∧ Below w.heap.size w w' := by
  obtain ⟨k, hk⟩ := (operator_ev n h).at
  exact signature_operator.calls k n _ w hk
theorem check0_calls (t : S24) (A : Option Addr) (c : Nat) (w : World) (hf : fit t) (hA : k24.C w A t.f2.length t.f2) (hc : t.f2.length ≤ c) : Calls Try.prog 113 #[.agg #[.bool t.f0, .string t.f1, .slice A t.f2.length c]] w fun e w' => e = .returned (.int .i64 (if chkB t = true then 0 else 10)) ∧ Below w.heap.size w w' := by
  obtain ⟨k, hk⟩ := (check_ev t hf).at
  exact types_Check.calls k t.f0 t.f1 A c t.f2 _ w hA hc hk
theorem contains_any {α : Type} (p : α → Bool) : ∀ l : List α, containsO (fun x => some (p x)) l = some (l.any p)
  | [] => rfl
  | a :: l => by
    simp only [containsO, Option.bind_some, List.any_cons]
    rw [contains_any p l]
    cases p a <;> simp
def oddTy (x : S106) : Bool := !nmC x.f0 || (decide (x.f1 < 0) || decide (8 < x.f1))
def oddCo (d : List (ByteArray × Int)) (x : S108) : Bool := !nmC x.f0 || (!chkB x.f1 || !overT d x.f1)
def sigOk (l0 : List S106) (l1 : List S108) : Bool := (decide ((arD [] l0).length = l0.length) && decide ((coD [] l1).length = l1.length)) && (!l0.any oddTy && !l1.any (oddCo (arD [] l0)))
def sigE (l0 : List S106) (l1 : List S108) : Int := if 512 < l0.length ∨ 512 < l1.length then 4 else if sigOk l0 l1 = true then 0 else 8
set_option maxHeartbeats 1000000 in
theorem oddTy_pred (x : S106) (w : World) (hx : okS x.f0) : PredTO 196 #[] x (oddTy x) w := by
  intro W hb
  have hop := fun W' => operator_calls x.f0 hx W'
  have hb0 := below_one (w := W) (.cells #[.string x.f0, .int .i64 x.f1] 106)
  have BX := blk_new W (.cells #[.string x.f0, .int .i64 x.f1] 106)
  obtain ⟨x0, x1, x2, x3⟩ := box2k BX
  have HB := Aside0.mk hb
  clear hb hx
  show Calls Try.prog 196 #[.agg #[.string x.f0, .int .i64 x.f1]] W _
  unfold oddTy
  cases hn : nmC x.f0 with
  | false =>
    rw [hn] at hop
    go_enter Try.func196, Try.ntmps196
    go_wp2_with (go_at_call 197; refine (hop _).mono ?_; rintro e W1 ⟨rfl, hc1⟩; obtain ⟨y0, y1, y2, y3⟩ := box2k (blk_below BX hc1))
    go_ret
    exact ⟨rfl, HB.out.trans ((below_step hb0 hc1).mono HB.out.size)⟩
  | true =>
    rw [hn] at hop
    by_cases p1 : x.f1 < 0
    · have p1' : decide (x.f1 < 0) = true := decide_eq_true p1
      go_enter Try.func196, Try.ntmps196
      go_wp2_with (go_at_call 197; refine (hop _).mono ?_; rintro e W1 ⟨rfl, hc1⟩; obtain ⟨y0, y1, y2, y3⟩ := box2k (blk_below BX hc1))
      go_ret
      exact ⟨by simp [p1], HB.out.trans ((below_step hb0 hc1).mono HB.out.size)⟩
    · have p1' : decide (x.f1 < 0) = false := decide_eq_false p1
      go_enter Try.func196, Try.ntmps196
      go_wp2_with (go_at_call 197; refine (hop _).mono ?_; rintro e W1 ⟨rfl, hc1⟩; obtain ⟨y0, y1, y2, y3⟩ := box2k (blk_below BX hc1))
      go_ret
      exact ⟨by simp; omega, HB.out.trans ((below_step hb0 hc1).mono HB.out.size)⟩
set_option maxHeartbeats 1000000 in
theorem oddCo_pred (d : List (ByteArray × Int)) (m1 : Nat) (v2 : Value) (B : Nat) (x : S108) (w : World) (hB : w.heap[B]? = some (.cells #[.map (some m1), v2] 163)) (hd : ArIs w m1 d) (hx : okS x.f0) (hf : fit x.f1) :
    PredCO 198 #[.pointer (some ⟨B, 0, none⟩)] x (oddCo d x) w := by
  intro W A c hb hl hC
  have hop := fun W' => operator_calls x.f0 hx W'
  have hb0 := below_one (w := W) (.cells #[.string x.f0, .bool x.f1.f0, .string x.f1.f1, .slice A x.f1.f2.length c] 108)
  have BX := blk_new W (.cells #[.string x.f0, .bool x.f1.f0, .string x.f1.f1, .slice A x.f1.f2.length c] 108)
  obtain ⟨x0, x1, x2, x3⟩ := box4k BX
  have BW := blk_below hB hb
  have hdW := MapIs.later hd hb
  have hck := fun W' (h : Below W.heap.size W W') => check0_calls x.f1 A c W' hf (Kd.C_below hC h) hl
  have hov := fun W' (h : Below W.heap.size W W') => over_calls d m1 v2 (szT x.f1) x.f1 A c W' (Nat.le_refl _) (MapIs.later hdW h) (Kd.C_below hC h) hl
  have HB := Aside0.mk hb
  clear hb hx hf hB hd hC hdW
  show Calls Try.prog 198 #[.agg #[.string x.f0, .bool x.f1.f0, .string x.f1.f1, .slice A x.f1.f2.length c], .pointer (some ⟨B, 0, none⟩)] W _
  unfold oddCo
  cases hn : nmC x.f0 with
  | false =>
    rw [hn] at hop
    go_enter Try.func198, Try.ntmps198
    go_wp2_with (go_at_call 197; refine (hop _).mono ?_; rintro e W1 ⟨rfl, hc1⟩)
    go_ret
    exact ⟨rfl, HB.out.trans ((below_step hb0 hc1).mono HB.out.size)⟩
  | true =>
    rw [hn] at hop
    cases hq : chkB x.f1 with
    | false =>
      rw [hq] at hck
      simp only [Bool.false_eq_true, if_false] at hck
      go_enter Try.func198, Try.ntmps198
      go_wp2_with (first
        | (go_at_call 113; refine (hck _ (below_step hb0 hc1)).mono ?_; rintro e W2 ⟨rfl, hc2⟩)
        | (go_at_call 197; refine (hop _).mono ?_; rintro e W1 ⟨rfl, hc1⟩; obtain ⟨y0, y1, y2, y3⟩ := box4k (blk_below BX hc1)))
      go_ret
      exact ⟨rfl, HB.out.trans ((below_step (below_step hb0 hc1) hc2).mono HB.out.size)⟩
    | true =>
      rw [hq] at hck
      simp only [if_true] at hck
      generalize overT d x.f1 = ov at *
      go_enter Try.func198, Try.ntmps198
      go_wp2_with (first
        | (go_at_call 157; refine (hov _ (below_step (below_step hb0 hc1) hc2)).mono ?_; rintro e W3 ⟨rfl, hc3⟩)
        | (go_at_call 113; refine (hck _ (below_step hb0 hc1)).mono ?_; rintro e W2 ⟨rfl, hc2⟩; obtain ⟨u0, u1, u2, u3⟩ := box4k (blk_below (blk_below BX hc1) hc2); obtain ⟨s0, s1, s2, s3⟩ := box2k (blk_below (blk_below (blk_below BW hb0) hc1) hc2))
        | (go_at_call 197; refine (hop _).mono ?_; rintro e W1 ⟨rfl, hc1⟩; obtain ⟨y0, y1, y2, y3⟩ := box4k (blk_below BX hc1)))
      go_ret
      exact ⟨by simp, HB.out.trans ((below_step (below_step (below_step hb0 hc1) hc2) hc3).mono HB.out.size)⟩
end Go.Proofs.Ytecplbgdalchdaa.Q
/- Proved here: the contract of signature.check. Conditions: those that each theorem names. -/
namespace Go.Proofs.Ytecplbgdalchdaa.Q
open Go.RowKit Go.Shelf Go.Proofs.YtecplbgdalchdaaW.PrintWords Go.Proofs.YtecplbgdalchdaaW.PrintMore
set_option linter.unusedVariables false
set_option linter.unusedSimpArgs false
attribute [local go_sem] Oper.semAt_some

theorem set2k {w : World} {g : Nat} {t : TypeId} {a b a' b' : Value} (h : w.heap[g]? = some (.cells #[a, b] t (0, 0))) :
    ((w.setCell ⟨g, 0, none⟩ a').setCell ⟨g, 1, none⟩ b').heap[g]? = some (.cells #[a', b'] t (0, 0)) :=
  blk_put (cs := #[a', b]) (blk_put (cs := #[a, b]) h 0 _ rfl) 1 _ rfl

theorem map_ne {w : World} {m g : Nat} {t : TypeId} {cs : Array Value} {κ : Type} {enc : κ → Value} {l : List (κ × Value)} (h : MapIs enc w m l) (hg : w.heap[g]? = some (.cells cs t (0, 0))) : m ≠ g := by
  rintro rfl
  obtain ⟨es, c, h1, _⟩ := h
  rw [hg] at h1
  cases h1
/-- What check gives: the tables, if the signature is valid. -/
def SigRes (w : World) (l0 : List S106) (l1 : List S108) (w' : World) (x y : Option Nat) : Prop :=
  sigE l0 l1 = 0 → ∃ m1 m2 d2, x = some m1 ∧ y = some m2 ∧ ArIs w' m1 (arD [] l0) ∧ CoIs w' m2 d2 ∧ bareK d2 = coD [] l1 ∧ TyOk w d2
theorem SigRes.no {w W : World} {l0 : List S106} {l1 : List S108} {x y : Option Nat} {e : Int} (h : sigE l0 l1 = e) (he : e ≠ 0) : SigRes w l0 l1 W x y := fun h' => absurd (h.symm.trans h') he
set_option maxHeartbeats 2000000 in
set_option maxRecDepth 100000 in
theorem sigcheck_calls (A0 : Option Addr) (c0 : Nat) (l0 : List S106) (A1 : Option Addr) (c1 : Nat) (l1 : List S108) (w : World) (hr0 : Kd.C k106 w A0 l0.length l0) (hc0 : l0.length ≤ c0) (hr1 : Kd.C k108 w A1 l1.length l1) (hc1 : l1.length ≤ c1)
    (h0 : ∀ x, x ∈ l0 → okS x.f0) (h1 : ∀ x, x ∈ l1 → okS x.f0 ∧ fit x.f1) :
    Calls Try.prog 148 #[.agg #[.slice A0 l0.length c0, .slice A1 l1.length c1]] w fun e w' => ∃ x y, e = .returned (.tuple #[.agg #[.map x, .map y], .int .i64 (sigE l0 l1)]) ∧ SigRes w l0 l1 w' x y ∧ Below w.heap.size w w' := by
  have hb0 := (two_new w (.cells #[.slice A0 l0.length c0, .slice A1 l1.length c1] 94) (.cells #[.map none, .map none] 163)).1
  have BX := (two_new w (.cells #[.slice A0 l0.length c0, .slice A1 l1.length c1] 94) (.cells #[.map none, .map none] 163)).2.1
  have BR := (two_new w (.cells #[.slice A0 l0.length c0, .slice A1 l1.length c1] 94) (.cells #[.map none, .map none] 163)).2.2
  obtain ⟨x0, x1, _, _⟩ := box2k BX
  by_cases p0 : 512 < l0.length
  · have q0 : decide (512 < l0.length) = true := decide_eq_true p0
    have hE : sigE l0 l1 = 4 := by unfold sigE; rw [if_pos (.inl p0)]
    clear hr0 hr1 h0 h1
    go_enter Try.func148, Try.ntmps148
    go_wp2_with fail
    refine bodyPost_ret (results_ct rfl _ _ (w.heap.size + 1) 163 #[.map none, .map none] (0, 0) _ rfl BR Try.underlying163 rfl (by kernel_rfl)) rfl ?_
    exact ⟨_, _, by first | rfl | (rw [hE]; rfl), SigRes.no hE (by decide), hb0⟩
  have q0 : decide (512 < l0.length) = false := decide_eq_false p0
  by_cases p1 : 512 < l1.length
  · have q1 : decide (512 < l1.length) = true := decide_eq_true p1
    have hE : sigE l0 l1 = 4 := by unfold sigE; rw [if_pos (.inr p1)]
    clear hr0 hr1 h0 h1
    go_enter Try.func148, Try.ntmps148
    go_wp2_with fail
    refine bodyPost_ret (results_ct rfl _ _ (w.heap.size + 1) 163 #[.map none, .map none] (0, 0) _ rfl BR Try.underlying163 rfl (by kernel_rfl)) rfl ?_
    exact ⟨_, _, by first | rfl | (rw [hE]; rfl), SigRes.no hE (by decide), hb0⟩
  have q1 : decide (512 < l1.length) = false := decide_eq_false p1
  have hE : sigE l0 l1 = if sigOk l0 l1 = true then 0 else 8 := by unfold sigE; rw [if_neg (by omega)]
  have htab := tabled_calls A0 c0 l0 A1 c1 l1 w _ hb0 hr0 hc0 hr1 hc1
  have hct := fun W (hW : Below w.heap.size w W) => containsFunc_TO 196 #[] (enters_of Try.func196 (by kernel_rfl) rfl) (fun x => some (oddTy x)) W A0 c0 l0 _ (Kd.C_below hr0 hW)
    (fun x hx b hb => by have hp := oddTy_pred x W (h0 x hx); rwa [Option.some.inj hb] at hp) (contains_any oddTy l0)
  have hcc := fun (m1 : Nat) (v2 : Value) (B : Nat) W (hW : Below w.heap.size w W) (hB : W.heap[B]? = some (.cells #[.map (some m1), v2] 163)) (hd : ArIs W m1 (arD [] l0)) => containsFunc_CO 198 #[.pointer (some ⟨B, 0, none⟩)] (enters_of Try.func198 (by kernel_rfl) rfl) (fun x => some (oddCo (arD [] l0) x)) W A1 c1 l1 _ (Kd.C_below hr1 hW)
    (fun x hx b hb => by have hp := oddCo_pred (arD [] l0) m1 v2 B x W hB hd (h1 x hx).1 (h1 x hx).2; rwa [Option.some.inj hb] at hp) (contains_any (oddCo (arD [] l0)) l1)
  have hOk : sigOk l0 l1 = ((decide ((arD [] l0).length = l0.length) && decide ((coD [] l1).length = l1.length)) && (!l0.any oddTy && !l1.any (oddCo (arD [] l0)))) := rfl
  clear hr0 hr1 h0 h1
  generalize (decide ((arD [] l0).length = l0.length) && decide ((coD [] l1).length = l1.length)) = qd at *
  generalize l0.any oddTy = qt at *
  generalize l1.any (oddCo (arD [] l0)) = qc at *
  rw [hOk] at hE
  clear hOk
  have HE := Aside0.mk hE
  clear hE
  cases qd with
  | false =>
    clear hct hcc
    go_enter Try.func148, Try.ntmps148
    go_wp2_with (go_at_call 195; refine htab.mono ?_; rintro e W1 ⟨m1, m2, d2, rfl, hA, hCo, hD, hT, hc1⟩; have hcb2 := below_step hc1 (below_one (.cells #[.map (some m1), .map (some m2)] 163)); have BX2 := blk_below BX hcb2; have BR2 := blk_below BR hcb2; have BT2 := blk_new W1 (.cells #[.map (some m1), .map (some m2)] 163); have hA2 := MapIs.later hA (below_one (.cells #[.map (some m1), .map (some m2)] 163)); obtain ⟨y0, y1, y2, y3⟩ := box2k BX2; obtain ⟨ya, yb, yc, yd⟩ := box2k BR2)
    refine bodyPost_ret (results_ct rfl _ _ (w.heap.size + 1) 163 #[.map none, .map none] (0, 0) _ rfl (set2k BR2) Try.underlying163 rfl (by kernel_rfl)) rfl ?_
    exact ⟨_, _, by rw [HE.out]; rfl, SigRes.no HE.out (by simp), below_set (below_set (below_step hb0 hcb2) (by omega)) (by omega)⟩
  | true =>
  cases qt with
  | true =>
    clear hcc
    go_enter Try.func148, Try.ntmps148
    go_wp2_with (first | (go_at_call 199; refine (hct _ (below_step hb0 hcb2)).mono ?_; rintro e W3 ⟨rfl, hc3⟩; have BX3 := blk_below BX2 hc3; have BT3 := blk_below BT2 hc3; have hA3 := MapIs.later hA2 hc3; obtain ⟨z0, z1, z2, z3⟩ := box2k BX3; obtain ⟨za, zb, zc, zd⟩ := box2k (blk_below BR2 hc3)) | (go_at_call 195; refine htab.mono ?_; rintro e W1 ⟨m1, m2, d2, rfl, hA, hCo, hD, hT, hc1⟩; have hcb2 := below_step hc1 (below_one (.cells #[.map (some m1), .map (some m2)] 163)); have BX2 := blk_below BX hcb2; have BR2 := blk_below BR hcb2; have BT2 := blk_new W1 (.cells #[.map (some m1), .map (some m2)] 163); have hA2 := MapIs.later hA (below_one (.cells #[.map (some m1), .map (some m2)] 163)); obtain ⟨y0, y1, y2, y3⟩ := box2k BX2; obtain ⟨ya, yb, yc, yd⟩ := box2k BR2))
    refine bodyPost_ret (results_ct rfl _ _ (w.heap.size + 1) 163 #[.map none, .map none] (0, 0) _ rfl (set2k (blk_below BR2 hc3)) Try.underlying163 rfl (by kernel_rfl)) rfl ?_
    exact ⟨_, _, by rw [HE.out]; rfl, SigRes.no HE.out (by simp), below_set (below_set (below_step (below_step hb0 hcb2) hc3) (by omega)) (by omega)⟩
  | false =>
  cases qc with
  | true =>
    go_enter Try.func148, Try.ntmps148
    go_wp2_with (first | (go_at_call 200; refine (hcc m1 (.map (some m2)) W1.heap.size _ (below_step (below_step hb0 hcb2) hc3) BT3 hA3).mono ?_; rintro e W4 ⟨rfl, hc4⟩; have BT4 := blk_below BT3 hc4; obtain ⟨u0, u1, u2, u3⟩ := box2k BT4; obtain ⟨ua, ub, uc, ud⟩ := box2k (blk_below (blk_below BR2 hc3) hc4)) | (go_at_call 199; refine (hct _ (below_step hb0 hcb2)).mono ?_; rintro e W3 ⟨rfl, hc3⟩; have BX3 := blk_below BX2 hc3; have BT3 := blk_below BT2 hc3; have hA3 := MapIs.later hA2 hc3; obtain ⟨z0, z1, z2, z3⟩ := box2k BX3; obtain ⟨za, zb, zc, zd⟩ := box2k (blk_below BR2 hc3)) | (go_at_call 195; refine htab.mono ?_; rintro e W1 ⟨m1, m2, d2, rfl, hA, hCo, hD, hT, hc1⟩; have hcb2 := below_step hc1 (below_one (.cells #[.map (some m1), .map (some m2)] 163)); have BX2 := blk_below BX hcb2; have BR2 := blk_below BR hcb2; have BT2 := blk_new W1 (.cells #[.map (some m1), .map (some m2)] 163); have hA2 := MapIs.later hA (below_one (.cells #[.map (some m1), .map (some m2)] 163)); obtain ⟨y0, y1, y2, y3⟩ := box2k BX2; obtain ⟨ya, yb, yc, yd⟩ := box2k BR2))
    refine bodyPost_ret (results_ct rfl _ _ (w.heap.size + 1) 163 #[.map none, .map none] (0, 0) _ rfl (set2k (blk_below (blk_below BR2 hc3) hc4)) Try.underlying163 rfl (by kernel_rfl)) rfl ?_
    exact ⟨_, _, by rw [HE.out]; rfl, SigRes.no HE.out (by simp), below_set (below_set (below_step (below_step (below_step hb0 hcb2) hc3) hc4) (by omega)) (by omega)⟩
  | false =>
    go_enter Try.func148, Try.ntmps148
    go_wp2_with (first | (go_at_call 200; refine (hcc m1 (.map (some m2)) W1.heap.size _ (below_step (below_step hb0 hcb2) hc3) BT3 hA3).mono ?_; rintro e W4 ⟨rfl, hc4⟩; have BT4 := blk_below BT3 hc4; obtain ⟨u0, u1, u2, u3⟩ := box2k BT4; obtain ⟨ua, ub, uc, ud⟩ := box2k (blk_below (blk_below BR2 hc3) hc4)) | (go_at_call 199; refine (hct _ (below_step hb0 hcb2)).mono ?_; rintro e W3 ⟨rfl, hc3⟩; have BX3 := blk_below BX2 hc3; have BT3 := blk_below BT2 hc3; have hA3 := MapIs.later hA2 hc3; obtain ⟨z0, z1, z2, z3⟩ := box2k BX3; obtain ⟨za, zb, zc, zd⟩ := box2k (blk_below BR2 hc3)) | (go_at_call 195; refine htab.mono ?_; rintro e W1 ⟨m1, m2, d2, rfl, hA, hCo, hD, hT, hc1⟩; have hcb2 := below_step hc1 (below_one (.cells #[.map (some m1), .map (some m2)] 163)); have BX2 := blk_below BX hcb2; have BR2 := blk_below BR hcb2; have BT2 := blk_new W1 (.cells #[.map (some m1), .map (some m2)] 163); have hA2 := MapIs.later hA (below_one (.cells #[.map (some m1), .map (some m2)] 163)); obtain ⟨y0, y1, y2, y3⟩ := box2k BX2; obtain ⟨ya, yb, yc, yd⟩ := box2k BR2))
    have BR5 := blk_below (blk_below BR2 hc3) hc4
    have hA5 := MapIs.later hA3 hc4
    have hCo5 := MapIs.later (MapIs.later (MapIs.later hCo (below_one _)) hc3) hc4
    refine bodyPost_ret (results_ct rfl _ _ (w.heap.size + 1) 163 #[.map (some m1), .map (some m2)] (0, 0) _ rfl (set2k BR5) Try.underlying163 rfl (by kernel_rfl)) rfl ?_
    exact ⟨_, _, by rw [HE.out]; rfl, fun _ => ⟨m1, m2, d2, rfl, rfl, MapIs.step (MapIs.step hA5 (Below.heap_setCell _ _ _ _ (map_ne hA5 BR5))) (Below.heap_setCell _ _ _ _ (map_ne hA5 BR5)), MapIs.step (MapIs.step hCo5 (Below.heap_setCell _ _ _ _ (map_ne hCo5 BR5))) (Below.heap_setCell _ _ _ _ (map_ne hCo5 BR5)), hD, hT⟩, below_set (below_set (below_step (below_step (below_step hb0 hcb2) hc3) hc4) (by omega)) (by omega)⟩
end Go.Proofs.Ytecplbgdalchdaa.Q
