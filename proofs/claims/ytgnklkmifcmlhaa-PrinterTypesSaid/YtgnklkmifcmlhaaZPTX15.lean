/- Proved here: parts of the proof of a given statement (HRowPrinterTypes): contracts of the functions that it reaches, what they answer, and in the last text the statement itself. Conditions: those that each theorem names. -/
import Derived.Test.YtgnklkmifcmlhaaZPTX14
import Derived.Test.YtgnklkmifcmlhaaZPTX6
import Derived.Test.YtgnklkmifcmlhaaZPTX10
import Derived.WideMake
import Derived.Outline
import Derived.Deep.CutRange
import Derived.Deep.CutBlock
/- Proved here: the contract of printer.CheckSyntax. Conditions: those that each theorem names. -/
namespace Go.Proofs.Ytgnklkmifcmlhaa.Q
open Go.RowKit Go.Shelf Go.Proofs.YtgnklkmifcmlhaaW.PrintWords Go.Proofs.YtgnklkmifcmlhaaW.PrintMore
set_option linter.unusedVariables false
set_option linter.unusedSimpArgs false
attribute [local go_sem] Oper.semAt_some
attribute [local go_sem] run_makeMap_plain

theorem But.blk {m k : Nat} {w w' : World} {o : Obj} (h : But m w w') (hk : w.heap[k]? = some o) (hm : k ≠ m) : w'.heap[k]? = some o := (h.block k (Array.getElem?_eq_some_iff.1 hk).1 hm).trans hk
abbrev CS (w : World) (xo : Obj) (m5 m6 m9 : Nat) (s5 s6 : List ByteArray) (d : List (Int × Bool)) (W : World) : Prop :=
  W.heap[w.heap.size]? = some xo ∧ SetIs W m5 s5 ∧ SetIs W m6 s6 ∧ SideIs W m9 d ∧ Below w.heap.size w W ∧ w.heap.size < m5 ∧ m5 < m6 ∧ m6 < m9
section
variable {w W W1 : World} {xo : Obj} {m5 m6 m9 : Nat} {s5 s6 s' : List ByteArray} {d d' : List (Int × Bool)}
theorem CS.step (h : CS w xo m5 m6 m9 s5 s6 d W) (hb : Below W.heap.size W W1) : CS w xo m5 m6 m9 s5 s6 d W1 := by
  obtain ⟨h1, h2, h3, h4, h5, h6⟩ := h
  exact ⟨blk_below h1 hb, MapIs.later h2 hb, MapIs.later h3 hb, MapIs.later h4 hb, below_step h5 hb, h6⟩
theorem CS.add5 (h : CS w xo m5 m6 m9 s5 s6 d W) (hs : SetIs W1 m5 s') (hb : But m5 W W1) : CS w xo m5 m6 m9 s' s6 d W1 := by
  obtain ⟨h1, h2, h3, h4, h5, h6, h7, h8⟩ := h
  exact ⟨hb.blk h1 (by omega), hs, MapIs.step h3 (hb.block _ h3.lt (by omega)), MapIs.step h4 (hb.block _ h4.lt (by omega)), But.below h5 hb (by omega) (Nat.le_refl _), h6, h7, h8⟩
theorem CS.add6 (h : CS w xo m5 m6 m9 s5 s6 d W) (hs : SetIs W1 m6 s') (hb : But m6 W W1) : CS w xo m5 m6 m9 s5 s' d W1 := by
  obtain ⟨h1, h2, h3, h4, h5, h6, h7, h8⟩ := h
  exact ⟨hb.blk h1 (by omega), MapIs.step h2 (hb.block _ h2.lt (by omega)), hs, MapIs.step h4 (hb.block _ h4.lt (by omega)), But.below h5 hb (by omega) (Nat.le_refl _), h6, h7, h8⟩
theorem CS.put9 (h : CS w xo m5 m6 m9 s5 s6 d W) (hs : SideIs W1 m9 d') (hb : But m9 W W1) : CS w xo m5 m6 m9 s5 s6 d' W1 := by
  obtain ⟨h1, h2, h3, h4, h5, h6, h7, h8⟩ := h
  exact ⟨hb.blk h1 (by omega), MapIs.step h2 (hb.block _ h2.lt (by omega)), MapIs.step h3 (hb.block _ h3.lt (by omega)), hs, But.below h5 hb (by omega) (Nat.le_refl _), h6, h7, h8⟩
end
theorem two_inj {α β : Type} {a a' : α} {b b' : β} (h : (a, b) = (a', b')) : a = a' ∧ b = b' := by
  simpa using h
theorem box2c {w : World} {g : Nat} {t : TypeId} {a b : Value} (h : w.heap[g]? = some (.cells #[a, b] t (0, 0))) : w.cell? ⟨g, 0, none⟩ = some a ∧ w.cell? ⟨g, 1, none⟩ = some b := ⟨(blk_cell h 0).trans rfl, (blk_cell h 1).trans rfl⟩
theorem tri_inj {α β γ : Type} {a a' : α} {b b' : β} {c c' : γ} (h : (a, b, c) = (a', b', c')) : a = a' ∧ b = b' ∧ c = c' := by
  simpa using h
theorem CS.made {w W : World} {xo : Obj} (hX : W.heap[w.heap.size]? = some xo) (hb : Below w.heap.size w W) :
    CS w xo W.heap.size (W.heap.size + 1) (W.heap.size + 1 + 1) [] [] [] (((W.alloc (.map #[] 0)).alloc (.map #[] 0)).alloc (.map #[] 0)) := by
  have h1 := below_one (w := W) (.map #[] 0)
  have h2 := below_one (w := W.alloc (.map #[] 0)) (.map #[] 0)
  have h3 := below_one (w := (W.alloc (.map #[] 0)).alloc (.map #[] 0)) (.map #[] 0)
  have e1 : (W.alloc (.map #[] 0)).heap.size = W.heap.size + 1 := by first | exact Array.size_push _ | simp
  have e2 : ((W.alloc (.map #[] 0)).alloc (.map #[] 0)).heap.size = W.heap.size + 1 + 1 := by first | exact (Array.size_push _).trans (congrArg (· + 1) (Array.size_push _)) | simp
  have g5 : SetIs (W.alloc (.map #[] 0)) W.heap.size [] := MapIs.new encS W
  have g6 : SetIs ((W.alloc (.map #[] 0)).alloc (.map #[] 0)) (W.heap.size + 1) [] := e1 ▸ MapIs.new encS (W.alloc (.map #[] 0))
  have g9 : SideIs (((W.alloc (.map #[] 0)).alloc (.map #[] 0)).alloc (.map #[] 0)) (W.heap.size + 1 + 1) [] := e2 ▸ MapIs.new encI ((W.alloc (.map #[] 0)).alloc (.map #[] 0))
  exact ⟨blk_below (blk_below (blk_below hX h1) h2) h3, MapIs.later (MapIs.later g5 h2) h3, MapIs.later g6 h3, g9, below_step (below_step (below_step hb h1) h2) h3, blk_lt hX, Nat.lt_succ_self _, Nat.lt_succ_self _⟩
set_option maxHeartbeats 2000000 in
set_option maxRecDepth 100000 in
theorem syn_calls (k : Nat) (A0 : Option Addr) (c0 : Nat) (l0 : List S119) (A1 : Option Addr) (c1 : Nat) (l1 : List S122) (A2 : Option Addr) (c2 : Nat) (l2 : List ByteArray) (A3 : Option Addr) (c3 : Nat) (l3 : List S111) (r : Int) (w : World)
    (hr0 : Kd.C k119 w A0 l0.length l0) (hr1 : Kd.C k122 w A1 l1.length l1) (hr2 : Kd.C Kd.string w A2 l2.length l2) (hr3 : Kd.C k111 w A3 l3.length l3)
    (h : ckF (printer_valid.f k) l0 l1 l2 l3 = some r) :
    Calls Try.prog 47 #[.agg #[.slice A0 l0.length c0, .slice A1 l1.length c1, .slice A2 l2.length c2, .slice A3 l3.length c3]] w fun e w' => e = .returned (.int .i64 r) ∧ Below w.heap.size w w' := by
  have hb0 := below_one (w := w) (.cells #[.slice A0 l0.length c0, .slice A1 l1.length c1, .slice A2 l2.length c2, .slice A3 l3.length c3] 69)
  have BX := blk_new w (.cells #[.slice A0 l0.length c0, .slice A1 l1.length c1, .slice A2 l2.length c2, .slice A3 l3.length c3] 69)
  have bx := box4c BX
  obtain ⟨x0, x1, x2, x3⟩ := bx
  have HA0 := Aside0.mk hr0
  have HA1 := Aside0.mk hr1
  have HA2 := Aside0.mk hr2
  have HA3 := Aside0.mk hr3
  have HF := Aside0.mk h
  clear hr0 hr1 hr2 hr3 h
  go_enter Try.func47, Try.ntmps47
  go_wp2_with fail
  have hX : ((w.alloc (.cells #[.slice A0 l0.length c0, .slice A1 l1.length c1, .slice A2 l2.length c2, .slice A3 l3.length c3] 69)).alloc (.cells #[.int .i64 (l0.length : Int), .int .i64 (l1.length : Int), .int .i64 (l2.length : Int), .int .i64 (l3.length : Int)] 3)).heap[w.heap.size]? = some (.cells #[.slice A0 l0.length c0, .slice A1 l1.length c1, .slice A2 l2.length c2, .slice A3 l3.length c3] 69) := (two_new w (.cells #[.slice A0 l0.length c0, .slice A1 l1.length c1, .slice A2 l2.length c2, .slice A3 l3.length c3] 69) (.cells #[.int .i64 (l0.length : Int), .int .i64 (l1.length : Int), .int .i64 (l2.length : Int), .int .i64 (l3.length : Int)] 3)).2.1
  have hN : ((w.alloc (.cells #[.slice A0 l0.length c0, .slice A1 l1.length c1, .slice A2 l2.length c2, .slice A3 l3.length c3] 69)).alloc (.cells #[.int .i64 (l0.length : Int), .int .i64 (l1.length : Int), .int .i64 (l2.length : Int), .int .i64 (l3.length : Int)] 3)).heap[w.heap.size + 1]? = some (.cells #[.int .i64 (l0.length : Int), .int .i64 (l1.length : Int), .int .i64 (l2.length : Int), .int .i64 (l3.length : Int)] 3) := (two_new w (.cells #[.slice A0 l0.length c0, .slice A1 l1.length c1, .slice A2 l2.length c2, .slice A3 l3.length c3] 69) (.cells #[.int .i64 (l0.length : Int), .int .i64 (l1.length : Int), .int .i64 (l2.length : Int), .int .i64 (l3.length : Int)] 3)).2.2
  have hb := (two_new w (.cells #[.slice A0 l0.length c0, .slice A1 l1.length c1, .slice A2 l2.length c2, .slice A3 l3.length c3] 69) (.cells #[.int .i64 (l0.length : Int), .int .i64 (l1.length : Int), .int .i64 (l2.length : Int), .int .i64 (l3.length : Int)] 3)).1
  clear hb0 BX x0 x1 x2 x3
  generalize ((w.alloc (.cells #[.slice A0 l0.length c0, .slice A1 l1.length c1, .slice A2 l2.length c2, .slice A3 l3.length c3] 69)).alloc (.cells #[.int .i64 (l0.length : Int), .int .i64 (l1.length : Int), .int .i64 (l2.length : Int), .int .i64 (l3.length : Int)] 3)) = W0 at *
  have hS0 : Aside0 (W0.heap[w.heap.size]? = some (.cells #[.slice A0 l0.length c0, .slice A1 l1.length c1, .slice A2 l2.length c2, .slice A3 l3.length c3] 69) ∧ W0.heap[w.heap.size + 1]? = some (.cells #[.int .i64 (l0.length : Int), .int .i64 (l1.length : Int), .int .i64 (l2.length : Int), .int .i64 (l3.length : Int)] 3) ∧ Below w.heap.size w W0) := ⟨hX, hN, hb⟩
  clear hX hN hb
  go_loopg [38] 4 (fun gg v38 wr => ∃ kk : Nat, kk ≤ 4 ∧ gg + kk = 4 ∧ v38 = .int .i64 (kk : Int) ∧ (0 < kk → l0.length ≤ 64) ∧ (1 < kk → l1.length ≤ 64) ∧ (2 < kk → l2.length ≤ 64) ∧ (3 < kk → l3.length ≤ 64) ∧ wr = W0)
  case atStart => exact ⟨0, by omega, by omega, rfl, by omega, by omega, by omega, by omega, rfl⟩
  case round =>
    obtain ⟨kk, hk1, hk2, rfl, hg0, hg1, hg2, hg3, rfl⟩ := hrel
    obtain ⟨hX, hN, hb⟩ := hS0.out
    obtain ⟨n0, n1, n2, n3⟩ := box4c hN
    rcases (by omega : kk = 0 ∨ kk = 1 ∨ kk = 2 ∨ kk = 3 ∨ kk = 4) with rfl | rfl | rfl | rfl | rfl
    · by_cases hl : 64 < l0.length
      · have q : decide (64 < l0.length) = true := decide_eq_true hl
        go_wp2_with fail
        go_ret
        have hF := HF.out
        rw [ckF, if_pos (by omega)] at hF
        exact ⟨by rw [← Option.some.inj hF]; rfl, hb⟩
      · have q : decide (64 < l0.length) = false := decide_eq_false hl
        go_wp2_with fail
        go_roundg 3
        case measure => omega
        case rel => exact ⟨1, by omega, by omega, rfl, by omega, by omega, by omega, by omega, rfl⟩
    · by_cases hl : 64 < l1.length
      · have q : decide (64 < l1.length) = true := decide_eq_true hl
        go_wp2_with fail
        go_ret
        have hF := HF.out
        rw [ckF, if_pos (by omega)] at hF
        exact ⟨by rw [← Option.some.inj hF]; rfl, hb⟩
      · have q : decide (64 < l1.length) = false := decide_eq_false hl
        go_wp2_with fail
        go_roundg 2
        case measure => omega
        case rel => exact ⟨2, by omega, by omega, rfl, by omega, by omega, by omega, by omega, rfl⟩
    · by_cases hl : 64 < l2.length
      · have q : decide (64 < l2.length) = true := decide_eq_true hl
        go_wp2_with fail
        go_ret
        have hF := HF.out
        rw [ckF, if_pos (by omega)] at hF
        exact ⟨by rw [← Option.some.inj hF]; rfl, hb⟩
      · have q : decide (64 < l2.length) = false := decide_eq_false hl
        go_wp2_with fail
        go_roundg 1
        case measure => omega
        case rel => exact ⟨3, by omega, by omega, rfl, by omega, by omega, by omega, by omega, rfl⟩
    · by_cases hl : 64 < l3.length
      · have q : decide (64 < l3.length) = true := decide_eq_true hl
        go_wp2_with fail
        go_ret
        have hF := HF.out
        rw [ckF, if_pos (by omega)] at hF
        exact ⟨by rw [← Option.some.inj hF]; rfl, hb⟩
      · have q : decide (64 < l3.length) = false := decide_eq_false hl
        go_wp2_with fail
        go_roundg 0
        case measure => omega
        case rel => exact ⟨4, by omega, by omega, rfl, by omega, by omega, by omega, by omega, rfl⟩
    · have hl : ¬ (64 < l0.length ∨ 64 < l1.length ∨ 64 < l2.length ∨ 64 < l3.length) := by
        have := hg0 (by omega)
        have := hg1 (by omega)
        have := hg2 (by omega)
        have := hg3 (by omega)
        omega
      have hF := HF.out
      rw [ckF, if_neg hl] at hF
      obtain ⟨⟨ok0, s0, d0⟩, hF0, hF⟩ := Option.bind_eq_some_iff.1 hF
      obtain ⟨⟨ok1, s1⟩, hF1, hF⟩ := Option.bind_eq_some_iff.1 hF
      obtain ⟨⟨ok2, s2⟩, hF2, hF⟩ := Option.bind_eq_some_iff.1 hF
      obtain ⟨⟨ok3, s3⟩, hF3, hr⟩ := Option.bind_eq_some_iff.1 hF
      have hl0 : l0.length ≤ 64 := hg0 (by omega)
      have hl1 : l1.length ≤ 64 := hg1 (by omega)
      have hl2 : l2.length ≤ 64 := hg2 (by omega)
      have hl3 : l3.length ≤ 64 := hg3 (by omega)
      clear hg0 hg1 hg2 hg3 hl HF hS0 hN n0 n1 n2 n3 hk1 hk2
      have hbx := box4c hX
      obtain ⟨x0, x1, x2, x3⟩ := hbx
      go_upto_region 11 with fail
      have hS0 : CS w (.cells #[.slice A0 l0.length c0, .slice A1 l1.length c1, .slice A2 l2.length c2, .slice A3 l3.length c3] 69) wr.heap.size (wr.heap.size + 1) (wr.heap.size + 1 + 1) [] [] [] (((wr.alloc (.map #[] 0)).alloc (.map #[] 0)).alloc (.map #[] 0)) := CS.made hX hb
      clear hX hb x0 x1 x2 x3
      generalize (((wr.alloc (.map #[] 0)).alloc (.map #[] 0)).alloc (.map #[] 0)) = W3 at hS0 ⊢
      generalize wr.heap.size + 1 + 1 = m9 at hS0 ⊢
      generalize wr.heap.size + 1 = m6 at hS0 ⊢
      generalize wr.heap.size = m5 at hS0 ⊢
      have hbx := box4c hS0.1
      obtain ⟨x0, x1, x2, x3⟩ := hbx
      go_wp2_with fail
      clear x0 x1 x2 x3
      obtain ⟨xo, hxo⟩ : ∃ xo, xo = Obj.cells #[.slice A0 l0.length c0, .slice A1 l1.length c1, .slice A2 l2.length c2, .slice A3 l3.length c3] 69 := ⟨_, rfl⟩
      rw [← hxo] at hS0
      replace hS0 := Aside0.mk hS0
      have HXO := Aside0.mk hxo
      clear hxo
      replace hF0 := Aside0.mk hF0
      replace hF1 := Aside0.mk hF1
      replace hF2 := Aside0.mk hF2
      replace hF3 := Aside0.mk hF3
      go_loopg [8, 51] l0.length (fun gg v8 v51 wr => ∃ (kk : Nat) (ok : Bool) (s : List ByteArray) (d : List (Int × Bool)), kk ≤ l0.length ∧ gg + kk = l0.length ∧ v8 = .bool ok ∧ v51 = .int .i64 (kk : Int) ∧ Aside0 (CS w xo m5 m6 m9 s [] d wr ∧ inF (printer_valid.f k) (l0.drop kk) ok s d = some (ok0, s0, d0)))
      case atStart => exact ⟨0, true, [], [], by omega, by omega, rfl, rfl, ⟨hS0.out, hF0.out⟩⟩
      case round =>
        obtain ⟨kk, ok, s, d, hk1, hk2, rfl, rfl, hT⟩ := hrel
        clear hS0 hF0
        obtain ⟨hC, hF⟩ := hT.out
        clear hT
        by_cases hkk : kk < l0.length
        · have q0 : decide (kk < l0.length) = true := decide_eq_true hkk
          have hx := at_T119 HA0.out (kk : Int) (by omega) (by omega)
          obtain ⟨ad, rfl, hx0, hx1, hx2⟩ := hx
          replace hx0 := pw_cell_below hC.2.2.2.2.1 hx0
          replace hx1 := pw_cell_below hC.2.2.2.2.1 hx1
          replace hx2 := pw_cell_below hC.2.2.2.2.1 hx2
          simp only [Int.toNat_natCast] at hx0 hx1 hx2
          rw [drop_in _ _ hkk] at hF
          generalize rd_T119 l0 (kk : Int) = a at *
          have BN := blk_new wr (.cells #[.string a.f0, .int .i64 a.f1, .bool a.f2] 119)
          have hbn := below_one (w := wr) (.cells #[.string a.f0, .int .i64 a.f1, .bool a.f2] 119)
          have hC5 := hC.step hbn
          have hne : wr.heap.size ≠ m5 := by have := MapIs.lt hC.2.1; omega
          have r9 := SideIs.look hC5.2.2.2.1 a.f1
          obtain ⟨n0, n1, n2, n3, n4, n5, n6⟩ := box3s BN
          go_upto_region 15 with fail
          generalize wr.alloc (.cells #[.string a.f0, .int .i64 a.f1, .bool a.f2] 119) = W5 at *
          rcases inF_inv hF with ⟨rfl, hF⟩ | ⟨rfl, b, hb, hF⟩
          · obtain ⟨o, r16, hs9⟩ := SideIs.put hC5.2.2.2.1 a.f1 a.f2
            go_wp2_with fail
            go_roundg (l0.length - kk - 1)
            case measure => omega
            case rel => exact ⟨kk + 1, false, s, _, by omega, by omega, rfl, by simp, ⟨hC5.put9 hs9 (But.put _ _ _), hF⟩⟩
          · have hadd := fun W (h : SetIs W m5 s) => add_calls k a.f0 b m5 s W h hb
            clear hb
            generalize (b && !decide (a.f0 ∈ s)) = q at *
            have hsd : sideOk d a.f1 a.f2 = (!(lookI a.f1 d).isSome || ((lookI a.f1 d).getD false == a.f2)) := rfl
            generalize sideOk d a.f1 a.f2 = so at *
            cases q with
            | false =>
              go_wp2_with (go_at_call 81; (refine (hadd _ hC5.2.1).mono ?_); rintro e W1 ⟨rfl, hs5, hbut⟩; have hC6 := hC5.add5 hs5 hbut; have BN6 := hbut.blk BN hne; obtain ⟨e0, e1, e2, e3, e4, e5, e6⟩ := box3s BN6; obtain ⟨o, r16, hs9⟩ := SideIs.put hC6.2.2.2.1 a.f1 a.f2)
              go_roundg (l0.length - kk - 1)
              case measure => omega
              case rel => exact ⟨kk + 1, _, _, _, by omega, by omega, rfl, by simp, ⟨hC6.put9 hs9 (But.put _ _ _), hF⟩⟩
            | true =>
              by_cases p1 : 1 ≤ a.f1
              · have p1' := decide_eq_true p1
                by_cases p2 : a.f1 ≤ 99
                · have p2' := decide_eq_true p2
                  rcases hl : lookI a.f1 d with _ | bb
                  · rw [hl] at hsd r9
                    simp only [Option.isSome_none, Option.isSome_some, Option.getD_none, Option.getD_some, Bool.not_false, Bool.not_true, Bool.true_or, Bool.false_or] at hsd r9 ⊢
                    clear hl
                    go_wp2_with (go_at_call 81; (refine (hadd _ hC5.2.1).mono ?_); rintro e W1 ⟨rfl, hs5, hbut⟩; have hC6 := hC5.add5 hs5 hbut; have BN6 := hbut.blk BN hne; obtain ⟨e0, e1, e2, e3, e4, e5, e6⟩ := box3s BN6; obtain ⟨o, r16, hs9⟩ := SideIs.put hC6.2.2.2.1 a.f1 a.f2)
                    go_roundg (l0.length - kk - 1)
                    case measure => omega
                    case rel => exact ⟨kk + 1, _, _, _, by omega, by omega, by simp [p1, p2, hsd], by simp, ⟨hC6.put9 hs9 (But.put _ _ _), hF⟩⟩
                  · rw [hl] at hsd r9
                    simp only [Option.isSome_none, Option.isSome_some, Option.getD_none, Option.getD_some, Bool.not_false, Bool.not_true, Bool.true_or, Bool.false_or] at hsd r9 ⊢
                    clear hl
                    go_wp2_with (go_at_call 81; (refine (hadd _ hC5.2.1).mono ?_); rintro e W1 ⟨rfl, hs5, hbut⟩; have hC6 := hC5.add5 hs5 hbut; have BN6 := hbut.blk BN hne; obtain ⟨e0, e1, e2, e3, e4, e5, e6⟩ := box3s BN6; obtain ⟨o, r16, hs9⟩ := SideIs.put hC6.2.2.2.1 a.f1 a.f2)
                    go_roundg (l0.length - kk - 1)
                    case measure => omega
                    case rel => exact ⟨kk + 1, _, _, _, by omega, by omega, by simp [p1, p2, hsd], by simp, ⟨hC6.put9 hs9 (But.put _ _ _), hF⟩⟩
                · have p2' := decide_eq_false p2
                  go_wp2_with (go_at_call 81; (refine (hadd _ hC5.2.1).mono ?_); rintro e W1 ⟨rfl, hs5, hbut⟩; have hC6 := hC5.add5 hs5 hbut; have BN6 := hbut.blk BN hne; obtain ⟨e0, e1, e2, e3, e4, e5, e6⟩ := box3s BN6; obtain ⟨o, r16, hs9⟩ := SideIs.put hC6.2.2.2.1 a.f1 a.f2)
                  go_roundg (l0.length - kk - 1)
                  case measure => omega
                  case rel => exact ⟨kk + 1, _, _, _, by omega, by omega, by rw [show decide (a.f1 ≤ 99) = false from decide_eq_false (by omega)]; simp, by simp, ⟨hC6.put9 hs9 (But.put _ _ _), hF⟩⟩
              · have p1' := decide_eq_false p1
                go_wp2_with (go_at_call 81; (refine (hadd _ hC5.2.1).mono ?_); rintro e W1 ⟨rfl, hs5, hbut⟩; have hC6 := hC5.add5 hs5 hbut; have BN6 := hbut.blk BN hne; obtain ⟨e0, e1, e2, e3, e4, e5, e6⟩ := box3s BN6; obtain ⟨o, r16, hs9⟩ := SideIs.put hC6.2.2.2.1 a.f1 a.f2)
                go_roundg (l0.length - kk - 1)
                case measure => omega
                case rel => exact ⟨kk + 1, _, _, _, by omega, by omega, by rw [show decide (1 ≤ a.f1) = false from decide_eq_false (by omega)]; simp, by simp, ⟨hC6.put9 hs9 (But.put _ _ _), hF⟩⟩
        · have q0 : decide (kk < l0.length) = false := decide_eq_false hkk
          obtain rfl : kk = l0.length := by omega
          rw [List.drop_length] at hF
          obtain ⟨rfl, rfl, rfl⟩ := tri_inj (Option.some.inj hF)
          have hbx := box4c (HXO.out ▸ hC.1)
          obtain ⟨x0, x1, x2, x3⟩ := hbx
          have hS0 := Aside0.mk hC
          clear hC hF hkk hk1 hk2
          go_wp2_with fail
          clear x0 x1 x2 x3
          go_loopg [8, 99] l1.length (fun gg v8 v99 wr => ∃ (kk : Nat) (ok : Bool) (s : List ByteArray), kk ≤ l1.length ∧ gg + kk = l1.length ∧ v8 = .bool ok ∧ v99 = .int .i64 (kk : Int) ∧ Aside0 (CS w xo m5 m6 m9 s [] d wr ∧ prF (printer_valid.f k) d (l1.drop kk) ok s = some (ok1, s1)))
          case atStart => exact ⟨0, _, _, by omega, by omega, rfl, rfl, ⟨hS0.out, hF1.out⟩⟩
          case round =>
            obtain ⟨kk, ok, s, hk1, hk2, rfl, rfl, hT⟩ := hrel
            clear hS0 hF1
            obtain ⟨hC, hF⟩ := hT.out
            clear hT
            by_cases hkk : kk < l1.length
            · have q0 : decide (kk < l1.length) = true := decide_eq_true hkk
              have hx := at_T122 HA1.out (kk : Int) (by omega) (by omega)
              obtain ⟨ad, rfl, hx0, hx1⟩ := hx
              replace hx0 := pw_cell_below hC.2.2.2.2.1 hx0
              replace hx1 := pw_cell_below hC.2.2.2.2.1 hx1
              simp only [Int.toNat_natCast] at hx0 hx1
              rw [drop_pr _ _ hkk] at hF
              generalize rd_T122 l1 (kk : Int) = a at *
              have BN := blk_new wr (.cells #[.string a.f0, .int .i64 a.f1] 122)
              have hbn := below_one (w := wr) (.cells #[.string a.f0, .int .i64 a.f1] 122)
              have hC5 := hC.step hbn
              have hne : wr.heap.size ≠ m5 := by have := MapIs.lt hC.2.1; omega
              have r9 := SideIs.look hC5.2.2.2.1 a.f1
              obtain ⟨n0, n1⟩ := box2c BN
              go_upto_region 22 with fail
              generalize wr.alloc (.cells #[.string a.f0, .int .i64 a.f1] 122) = W5 at *
              rcases prF_inv hF with ⟨rfl, hF⟩ | ⟨rfl, b, hb, hF⟩
              · go_wp2_with fail
                go_roundg (l1.length - kk - 1)
                case measure => omega
                case rel => exact ⟨kk + 1, false, s, by omega, by omega, rfl, by simp, ⟨hC5, hF⟩⟩
              · have hadd := fun W (h : SetIs W m5 s) => add_calls k a.f0 b m5 s W h hb
                clear hb
                generalize (b && !decide (a.f0 ∈ s)) = q at *
                generalize (lookI a.f1 d).isSome = kn at *
                cases q with
                | false =>
                  go_wp2_with (go_at_call 81; (refine (hadd _ hC5.2.1).mono ?_); rintro e W1 ⟨rfl, hs5, hbut⟩; have hC6 := hC5.add5 hs5 hbut; have BN6 := hbut.blk BN hne; obtain ⟨e0, e1⟩ := box2c BN6)
                  go_roundg (l1.length - kk - 1)
                  case measure => omega
                  case rel => exact ⟨kk + 1, _, _, by omega, by omega, rfl, by simp, ⟨hC6, hF⟩⟩
                | true =>
                  by_cases p1 : 1 ≤ a.f1
                  · have p1' := decide_eq_true p1
                    by_cases p2 : a.f1 ≤ 99
                    · have p2' := decide_eq_true p2
                      go_wp2_with (go_at_call 81; (refine (hadd _ hC5.2.1).mono ?_); rintro e W1 ⟨rfl, hs5, hbut⟩; have hC6 := hC5.add5 hs5 hbut; have BN6 := hbut.blk BN hne; obtain ⟨e0, e1⟩ := box2c BN6)
                      go_roundg (l1.length - kk - 1)
                      case measure => omega
                      case rel => exact ⟨kk + 1, _, _, by omega, by omega, by simp [p1, p2], by simp, ⟨hC6, hF⟩⟩
                    · have p2' := decide_eq_false p2
                      go_wp2_with (go_at_call 81; (refine (hadd _ hC5.2.1).mono ?_); rintro e W1 ⟨rfl, hs5, hbut⟩; have hC6 := hC5.add5 hs5 hbut; have BN6 := hbut.blk BN hne; obtain ⟨e0, e1⟩ := box2c BN6)
                      go_roundg (l1.length - kk - 1)
                      case measure => omega
                      case rel => exact ⟨kk + 1, _, _, by omega, by omega, by rw [show decide (a.f1 ≤ 99) = false from decide_eq_false (by omega)]; simp, by simp, ⟨hC6, hF⟩⟩
                  · have p1' := decide_eq_false p1
                    go_wp2_with (go_at_call 81; (refine (hadd _ hC5.2.1).mono ?_); rintro e W1 ⟨rfl, hs5, hbut⟩; have hC6 := hC5.add5 hs5 hbut; have BN6 := hbut.blk BN hne; obtain ⟨e0, e1⟩ := box2c BN6)
                    go_roundg (l1.length - kk - 1)
                    case measure => omega
                    case rel => exact ⟨kk + 1, _, _, by omega, by omega, by rw [show decide (1 ≤ a.f1) = false from decide_eq_false (by omega)]; simp, by simp, ⟨hC6, hF⟩⟩
            · have q0 : decide (kk < l1.length) = false := decide_eq_false hkk
              obtain rfl : kk = l1.length := by omega
              rw [List.drop_length] at hF
              obtain ⟨rfl, rfl⟩ := two_inj (Option.some.inj hF)
              have hbx := box4c (HXO.out ▸ hC.1)
              obtain ⟨x0, x1, x2, x3⟩ := hbx
              have hS0 := Aside0.mk hC
              clear hC hF hkk hk1 hk2
              go_wp2_with fail
              clear x0 x1 x2 x3
              go_loopg [8, 136] l2.length (fun gg v8 v136 wr => ∃ (kk : Nat) (ok : Bool) (s : List ByteArray), kk ≤ l2.length ∧ gg + kk = l2.length ∧ v8 = .bool ok ∧ v136 = .int .i64 (kk : Int) ∧ Aside0 (CS w xo m5 m6 m9 s [] d wr ∧ biF (printer_valid.f k) (l2.drop kk) ok s = some (ok2, s2)))
              case atStart => exact ⟨0, _, _, by omega, by omega, rfl, rfl, ⟨hS0.out, hF2.out⟩⟩
              case round =>
                obtain ⟨kk, ok, s, hk1, hk2, rfl, rfl, hT⟩ := hrel
                clear hS0 hF2
                obtain ⟨hC, hF⟩ := hT.out
                clear hT
                by_cases hkk : kk < l2.length
                · have q0 : decide (kk < l2.length) = true := decide_eq_true hkk
                  have hx := Kd.at_string HA2.out (kk : Int) (by omega) (by omega)
                  obtain ⟨ad, rfl, hx0⟩ := hx
                  replace hx0 := pw_cell_below hC.2.2.2.2.1 hx0
                  simp only [Int.toNat_natCast] at hx0
                  rw [drop_by _ _ hkk] at hF
                  generalize rdOf ByteArray.empty l2 (kk : Int) = a at *
                  have hC5 := hC
                  rcases biF_inv hF with ⟨rfl, hF⟩ | ⟨rfl, b, hb, hF⟩
                  · go_wp2_with fail
                    go_roundg (l2.length - kk - 1)
                    case measure => omega
                    case rel => exact ⟨kk + 1, false, s, by omega, by omega, rfl, by simp, ⟨hC5, hF⟩⟩
                  · have hadd := fun W (h : SetIs W m5 s) => add_calls k a b m5 s W h hb
                    go_wp2_with (go_at_call 81; (refine (hadd _ hC5.2.1).mono ?_); rintro e W1 ⟨rfl, hs5, hbut⟩; have hC6 := hC5.add5 hs5 hbut)
                    go_roundg (l2.length - kk - 1)
                    case measure => omega
                    case rel => exact ⟨kk + 1, _, _, by omega, by omega, rfl, by simp, ⟨hC6, hF⟩⟩
                · have q0 : decide (kk < l2.length) = false := decide_eq_false hkk
                  obtain rfl : kk = l2.length := by omega
                  rw [List.drop_length] at hF
                  obtain ⟨rfl, rfl⟩ := two_inj (Option.some.inj hF)
                  have hbx := box4c (HXO.out ▸ hC.1)
                  obtain ⟨x0, x1, x2, x3⟩ := hbx
                  have hS0 := Aside0.mk hC
                  clear hC hF hkk hk1 hk2
                  go_wp2_with fail
                  clear x0 x1 x2 x3
                  go_loopg [8, 151] l3.length (fun gg v8 v151 wr => ∃ (kk : Nat) (ok : Bool) (s6 : List ByteArray), kk ≤ l3.length ∧ gg + kk = l3.length ∧ v8 = .bool ok ∧ v151 = .int .i64 (kk : Int) ∧ Aside0 (CS w xo m5 m6 m9 s s6 d wr ∧ ovF (printer_valid.f k) (l3.drop kk) ok s6 = some (ok3, s3)))
                  case atStart => exact ⟨0, _, _, by omega, by omega, rfl, rfl, ⟨hS0.out, hF3.out⟩⟩
                  case round =>
                    obtain ⟨kk, ok, s6, hk1, hk2, rfl, rfl, hT⟩ := hrel
                    clear hS0 hF3
                    obtain ⟨hC, hF⟩ := hT.out
                    clear hT
                    by_cases hkk : kk < l3.length
                    · have q0 : decide (kk < l3.length) = true := decide_eq_true hkk
                      have hx := at_T111 HA3.out (kk : Int) (by omega) (by omega)
                      obtain ⟨ad, A4, c4, rfl, hx0, hx1, hl4, hC4⟩ := hx
                      replace hx0 := pw_cell_below hC.2.2.2.2.1 hx0
                      replace hx1 := pw_cell_below hC.2.2.2.2.1 hx1
                      simp only [Int.toNat_natCast] at hx0 hx1
                      rw [drop_ov _ _ hkk] at hF
                      generalize rd_T111 l3 (kk : Int) = a at *
                      have BN := blk_new wr (.cells #[.string a.f0, .slice A4 a.f1.length c4] 111)
                      have hbn := below_one (w := wr) (.cells #[.string a.f0, .slice A4 a.f1.length c4] 111)
                      have hC5 := hC.step hbn
                      have hne : wr.heap.size ≠ m6 := by have := MapIs.lt hC.2.2.1; omega
                      obtain ⟨n0, n1⟩ := box2c BN
                      go_upto_region 32 with fail
                      generalize wr.alloc (.cells #[.string a.f0, .slice A4 a.f1.length c4] 111) = W5 at *
                      obtain ⟨okn, s6', q, hq, hF, hcase⟩ : ∃ (okn : Bool) (s6' : List ByteArray) (q : Bool), coF (printer_valid.f k) a.f1 okn = some q ∧ ovF (printer_valid.f k) (l3.drop (kk + 1)) q s6' = some (ok3, s3) ∧ ((ok = false ∧ okn = false ∧ s6' = s6) ∨ (ok = true ∧ ∃ b, (printer_valid.f k) a.f0 = some b ∧ okn = ((b && !decide (a.f0 ∈ s6)) && (decide (1 ≤ (a.f1.length : Int)) && decide ((a.f1.length : Int) ≤ 8))) ∧ s6' = addS a.f0 s6)) := by
                        rcases ovF_inv hF with ⟨rfl, q, hq, hF⟩ | ⟨rfl, b, q, hb, hq, hF⟩
                        · exact ⟨false, s6, q, hq, hF, .inl ⟨rfl, rfl, rfl⟩⟩
                        · exact ⟨_, _, q, hq, hF, .inr ⟨rfl, b, hb, rfl, rfl⟩⟩
                      go_cut [8, 151] from 151 to 188 (fun v8 v151 wc => v8 = .bool okn ∧ v151 = .int .i64 (kk : Int) ∧ Aside0 (CS w xo m5 m6 m9 s s6' d wc ∧ wc.heap[wr.heap.size]? = some (.cells #[.string a.f0, .slice A4 a.f1.length c4] 111)))
                      case first =>
                        rcases hcase with ⟨rfl, rfl, rfl⟩ | ⟨rfl, b, hb, rfl, rfl⟩
                        · go_wp2_with fail
                          go_meet
                          case rel => exact ⟨rfl, rfl, ⟨hC5, BN⟩⟩
                        · have hadd := fun W (h : SetIs W m6 s6) => add_calls k a.f0 b m6 s6 W h hb
                          clear hb hq hF
                          generalize (b && !decide (a.f0 ∈ s6)) = q' at *
                          cases q' with
                          | false =>
                            go_wp2_with (go_at_call 81; (refine (hadd _ hC5.2.2.1).mono ?_); rintro e W1 ⟨rfl, hs5, hbut⟩; have hC6 := hC5.add6 hs5 hbut; have BN6 := hbut.blk BN hne; obtain ⟨e0, e1⟩ := box2c BN6)
                            go_meet
                            case rel => exact ⟨rfl, rfl, ⟨hC6, BN6⟩⟩
                          | true =>
                            by_cases p1 : 1 ≤ a.f1.length
                            · have p1' : decide (1 ≤ a.f1.length) = true := decide_eq_true p1
                              by_cases p2 : a.f1.length ≤ 8
                              · have p2' : decide (a.f1.length ≤ 8) = true := decide_eq_true p2
                                go_wp2_with (go_at_call 81; (refine (hadd _ hC5.2.2.1).mono ?_); rintro e W1 ⟨rfl, hs5, hbut⟩; have hC6 := hC5.add6 hs5 hbut; have BN6 := hbut.blk BN hne; obtain ⟨e0, e1⟩ := box2c BN6)
                                go_meet
                                case rel => exact ⟨by first | rfl | (rw [show decide (1 ≤ (a.f1.length : Int)) = true from decide_eq_true (by omega), show decide ((a.f1.length : Int) ≤ 8) = true from decide_eq_true (by omega)]; rfl), rfl, ⟨hC6, BN6⟩⟩
                              · have p2' : decide (a.f1.length ≤ 8) = false := decide_eq_false p2
                                go_wp2_with (go_at_call 81; (refine (hadd _ hC5.2.2.1).mono ?_); rintro e W1 ⟨rfl, hs5, hbut⟩; have hC6 := hC5.add6 hs5 hbut; have BN6 := hbut.blk BN hne; obtain ⟨e0, e1⟩ := box2c BN6)
                                go_meet
                                case rel => exact ⟨by rw [show decide ((a.f1.length : Int) ≤ 8) = false from decide_eq_false (by omega)]; simp, rfl, ⟨hC6, BN6⟩⟩
                            · have p1' : decide (1 ≤ a.f1.length) = false := decide_eq_false p1
                              go_wp2_with (go_at_call 81; (refine (hadd _ hC5.2.2.1).mono ?_); rintro e W1 ⟨rfl, hs5, hbut⟩; have hC6 := hC5.add6 hs5 hbut; have BN6 := hbut.blk BN hne; obtain ⟨e0, e1⟩ := box2c BN6)
                              go_meet
                              case rel => exact ⟨by rw [show decide (1 ≤ (a.f1.length : Int)) = false from decide_eq_false (by omega)]; simp, rfl, ⟨hC6, BN6⟩⟩
                      case rest =>
                        obtain ⟨rfl, rfl, hS⟩ := hcut
                        clear hcase BN hbn hC5 n0 n1 hne
                        obtain ⟨hC6, BN6⟩ := hS.out
                        obtain ⟨e0, e1⟩ := box2c BN6
                        have hS0 := Aside0.mk hC6
                        replace hq := Aside0.mk hq
                        replace hF := Aside0.mk hF
                        go_wp2_with fail
                        clear e0 e1 BN6 hC6 hS
                        go_loopg [8, 178] a.f1.length (fun gg v8 v178 wr => ∃ (jj : Nat) (ok : Bool), jj ≤ a.f1.length ∧ gg + jj = a.f1.length ∧ v8 = .bool ok ∧ v178 = .int .i64 (jj : Int) ∧ Aside0 (CS w xo m5 m6 m9 s s6' d wr ∧ coF (printer_valid.f k) (a.f1.drop jj) ok = some q))
                        case atStart => exact ⟨0, _, by omega, by omega, rfl, rfl, ⟨hS0.out, hq.out⟩⟩
                        case round =>
                          obtain ⟨jj, ok, hj1, hj2, rfl, rfl, hT⟩ := hrel
                          clear hS0 hq
                          obtain ⟨hC, hG⟩ := hT.out
                          clear hT
                          by_cases hjj : jj < a.f1.length
                          · have q0 : decide (jj < a.f1.length) = true := decide_eq_true hjj
                            have hx := Kd.at_string hC4 (jj : Int) (by omega) (by omega)
                            obtain ⟨ad4, rfl, hx0⟩ := hx
                            replace hx0 := pw_cell_below hC.2.2.2.2.1 hx0
                            simp only [Int.toNat_natCast] at hx0
                            rw [drop_by _ _ hjj] at hG
                            generalize rdOf ByteArray.empty a.f1 (jj : Int) = nn at *
                            rcases coF_inv hG with ⟨rfl, hG⟩ | ⟨rfl, b, hb, hG⟩
                            · go_wp2_with fail
                              go_roundg (a.f1.length - jj - 1)
                              case measure => omega
                              case rel => exact ⟨jj + 1, false, by omega, by omega, rfl, by (have := hC4.2.1); simp; exact w64 (by omega) (by omega), ⟨hC, hG⟩⟩
                            · have hvl := fun W => printer_valid.calls k nn b W hb
                              go_wp2_with (go_at_call 82; (refine (hvl _).mono ?_); rintro e W1 ⟨rfl, hc1⟩; have hC7 := hC.step hc1)
                              go_roundg (a.f1.length - jj - 1)
                              case measure => omega
                              case rel => exact ⟨jj + 1, b, by omega, by omega, rfl, by (have := hC4.2.1); simp; exact w64 (by omega) (by omega), ⟨hC7, hG⟩⟩
                          · have q0 : decide (jj < a.f1.length) = false := decide_eq_false hjj
                            obtain rfl : jj = a.f1.length := by omega
                            rw [List.drop_length] at hG
                            obtain rfl := Option.some.inj hG
                            go_wp2_with fail
                            go_roundg (l3.length - kk - 1)
                            case measure => omega
                            case rel => exact ⟨kk + 1, _, _, by omega, by omega, rfl, by simp, ⟨hC, hF.out⟩⟩
                    · have q0 : decide (kk < l3.length) = false := decide_eq_false hkk
                      obtain rfl : kk = l3.length := by omega
                      rw [List.drop_length] at hF
                      obtain ⟨rfl, rfl⟩ := two_inj (Option.some.inj hF)
                      cases ok with
                      | true =>
                        go_wp2_with fail
                        go_ret
                        exact ⟨by rw [← Option.some.inj hr]; rfl, hC.2.2.2.2.1⟩
                      | false =>
                        go_wp2_with fail
                        go_ret
                        exact ⟨by rw [← Option.some.inj hr]; rfl, hC.2.2.2.2.1⟩
end Go.Proofs.Ytgnklkmifcmlhaa.Q
