/- Proved here: parts of the proof of a given statement (HRowTermsTyvars): contracts of the functions that it reaches, what they answer, and in the last text the statement itself. Conditions: those that each theorem names. -/
import Derived.Test.YtecplbgdalchdaaZTVX16
import Derived.Test.YtecplbgdalchdaaZTVX10
import Derived.Test.YtecplbgdalchdaaZTVX7
import Derived.Deep.AppendLies
import Derived.Deep.RegionHeld3
import Derived.Deep.Cut
import Derived.Test.YtecplbgdalchdaaZTVX14
import Derived.Test.YtecplbgdalchdaaZTVX13
import Derived.Test.YtecplbgdalchdaaZTVX15
import Derived.Test.YtecplbgdalchdaaZTVX3
/- Proved here: the contract of the walker's note. Conditions: those that each theorem names. -/
namespace Go.Proofs.Ytecplbgdalchdaa.Q
open Go.RowKit Go.Shelf Go.Proofs.YtecplbgdalchdaaW.PrintWords Go.Proofs.YtecplbgdalchdaaW.PrintMore
set_option linter.unusedVariables false
set_option linter.unusedSimpArgs false
attribute [local go_sem] Oper.semAt_some


abbrev ntO0 : Oper := { dst := some 20, op := Op.move (Operand.tmp 0), type := 180, pos := "terms.go:113", after := #[], guard := none }
abbrev ntO1 : Oper := { dst := some 21, op := Op.nilCheck (Operand.tmp 20), type := 0, pos := "terms.go:113", after := #[{ on := 0, ground := Ground.data }], guard := none }
abbrev ntO2 : Oper := { dst := some 22, op := Op.fieldAddr 126 (Operand.tmp 21) 0, type := 0, pos := "terms.go:113", after := #[{ on := 1, ground := Ground.data }], guard := none }
abbrev ntO3 : Oper := { dst := some 23, op := Op.load 25 (Operand.tmp 22), type := 25, pos := "terms.go:113", after := #[{ on := 2, ground := Ground.data }], guard := none }
abbrev ntO4 : Oper := { dst := some 24, op := Op.load 27 (Operand.tmp 3), type := 27, pos := "terms.go:113", after := #[], guard := none }
abbrev ntO5 : Oper := { dst := some 25, op := Op.call { callee := Callee.value (Operand.func 28), args := #[Operand.tmp 24], argTypes := #[27] }, type := 27, pos := "terms.go:113", after := #[{ on := 4, ground := Ground.data }], guard := none }
abbrev ntO6 : Oper := { dst := some 26, op := Op.call { callee := Callee.builtin Builtin.len, args := #[Operand.tmp 23], argTypes := #[25] }, type := 3, pos := "terms.go:113", after := #[{ on := 3, ground := Ground.data }], guard := none }
abbrev ntO7 : Oper := { dst := some 27, op := Op.buildSlice 25 1 #[(0, Operand.const (Value.agg #[Value.int IntKind.u8 0, Value.string { data := #[] }, Value.bool false, Value.string { data := #[] }, Value.slice none 0 0, Value.int IntKind.i64 0, Value.slice none 0 0]))], type := 25, pos := "terms.go:113", after := #[], guard := none }
abbrev ntO8 : Oper := { dst := some 28, op := Op.call { callee := Callee.builtin Builtin.append, args := #[Operand.tmp 23, Operand.tmp 27], argTypes := #[25, 25] }, type := 25, pos := "terms.go:113", after := #[{ on := 3, ground := Ground.data }, { on := 7, ground := Ground.data }, { on := 5, ground := Ground.chain }, { on := 0, ground := Ground.phase }, { on := 1, ground := Ground.phase }, { on := 2, ground := Ground.phase }, { on := 3, ground := Ground.phase }, { on := 4, ground := Ground.phase }, { on := 5, ground := Ground.phase }, { on := 6, ground := Ground.phase }, { on := 7, ground := Ground.phase }], guard := none }
abbrev ntO9 : Oper := { dst := some 29, op := Op.indexAddr 25 (Operand.tmp 28) (Operand.tmp 26), type := 0, pos := "terms.go:113", after := #[{ on := 8, ground := Ground.data }, { on := 6, ground := Ground.data }, { on := 0, ground := Ground.phase }, { on := 1, ground := Ground.phase }, { on := 2, ground := Ground.phase }, { on := 3, ground := Ground.phase }, { on := 4, ground := Ground.phase }, { on := 5, ground := Ground.phase }, { on := 6, ground := Ground.phase }, { on := 7, ground := Ground.phase }, { on := 8, ground := Ground.phase }, { on := 13, ground := Ground.gcOnly Departure.appendInPlace }], guard := none }
abbrev ntO10 : Oper := { dst := none, op := Op.store 27 (Operand.tmp 29) (Operand.tmp 25), type := 0, pos := "terms.go:113", after := #[{ on := 9, ground := Ground.data }, { on := 5, ground := Ground.data }, { on := 8, ground := Ground.chain }, { on := 0, ground := Ground.phase }, { on := 1, ground := Ground.phase }, { on := 2, ground := Ground.phase }, { on := 3, ground := Ground.phase }, { on := 4, ground := Ground.phase }, { on := 5, ground := Ground.phase }, { on := 6, ground := Ground.phase }, { on := 7, ground := Ground.phase }, { on := 8, ground := Ground.phase }, { on := 13, ground := Ground.gcOnly Departure.appendInPlace }], guard := none }
abbrev ntO11 : Oper := { dst := some 30, op := Op.nilCheck (Operand.tmp 20), type := 0, pos := "terms.go:113", after := #[{ on := 0, ground := Ground.data }, { on := 0, ground := Ground.phase }, { on := 1, ground := Ground.phase }, { on := 2, ground := Ground.phase }, { on := 3, ground := Ground.phase }, { on := 4, ground := Ground.phase }, { on := 5, ground := Ground.phase }, { on := 6, ground := Ground.phase }, { on := 7, ground := Ground.phase }, { on := 8, ground := Ground.phase }, { on := 9, ground := Ground.textOnly Departure.appendInPlace }, { on := 10, ground := Ground.textOnly Departure.appendInPlace }], guard := none }
abbrev ntO12 : Oper := { dst := some 31, op := Op.fieldAddr 126 (Operand.tmp 30) 0, type := 0, pos := "terms.go:113", after := #[{ on := 11, ground := Ground.data }, { on := 0, ground := Ground.phase }, { on := 1, ground := Ground.phase }, { on := 2, ground := Ground.phase }, { on := 3, ground := Ground.phase }, { on := 4, ground := Ground.phase }, { on := 5, ground := Ground.phase }, { on := 6, ground := Ground.phase }, { on := 7, ground := Ground.phase }, { on := 8, ground := Ground.phase }, { on := 9, ground := Ground.textOnly Departure.appendInPlace }, { on := 10, ground := Ground.textOnly Departure.appendInPlace }], guard := none }
abbrev ntO13 : Oper := { dst := none, op := Op.store 25 (Operand.tmp 31) (Operand.tmp 28), type := 0, pos := "terms.go:113", after := #[{ on := 12, ground := Ground.data }, { on := 8, ground := Ground.data }, { on := 8, ground := Ground.chain }, { on := 10, ground := Ground.textOnly Departure.appendInPlace }, { on := 0, ground := Ground.phase }, { on := 1, ground := Ground.phase }, { on := 2, ground := Ground.phase }, { on := 3, ground := Ground.phase }, { on := 4, ground := Ground.phase }, { on := 5, ground := Ground.phase }, { on := 6, ground := Ground.phase }, { on := 7, ground := Ground.phase }, { on := 8, ground := Ground.phase }, { on := 9, ground := Ground.textOnly Departure.appendInPlace }, { on := 10, ground := Ground.textOnly Departure.appendInPlace }], guard := none }
def Lock4 (p : Prop) : Prop := p
theorem lock4_ {p : Prop} (h : Lock4 p) : p := h
theorem leafy_iff (k : Int) : leafy k = true ↔ (k = 1 ∨ k = 2 ∨ k = 5) := by unfold leafy; simp [or_assoc]
theorem addNs_take (l ts : List ByteArray) (j : Nat) (h : j < l.length) : addNs (l.take (j + 1)) ts = addN (addNs (l.take j) ts) l[j] := by
  rw [List.take_succ_eq_append_getElem h]
  exact List.foldl_append ..
theorem addNs_len : ∀ (l ts : List ByteArray), (addNs l ts).length ≤ ts.length + l.length
  | [], ts => by simp [addNs]
  | a :: l, ts => by
    have h := addNs_len l (addN ts a)
    have h2 : (addN ts a).length ≤ ts.length + 1 := by unfold addN; split <;> simp
    simp only [addNs, List.foldl_cons, List.length_cons] at h ⊢
    omega
theorem rdOf_get (l : List ByteArray) (j : Nat) (h : j < l.length) : rdOf ByteArray.empty l (j : Int) = l[j] := by
  unfold rdOf
  simp only [Int.toNat_natCast]
  rw [List.getD_eq_getElem?_getD, List.getElem?_eq_getElem h]
  rfl
theorem StrR.kept {W0 W4 wr : World} {g : Nat} {v : Value} {l : List ByteArray} {base : Nat} {vs : List S27} {ts : List ByteArray} (hg : g < W0.heap.size) (hS : NtS base g vs ts W0) (hb : Below W0.heap.size W0 W4) (h : StrR W4 W0.heap.size v l) (hk : NtK g W4 wr) : StrR wr W0.heap.size v l := by
  have hvb : ∀ k, v.ownBlock = some k → W0.heap.size ≤ k := fun k hk => by
    obtain ⟨_, _, ho, _⟩ := h
    exact own_base ho k hk
  exact Kd.R_mono (Kd.R_step (Kd.R_tight (by rfl) h) (fun k he hlt => hk.keep k hlt (by have := hvb k he.symm; omega) (hS.not_row hb (hvb k he.symm)))) (fun _ _ => trivial)
/-- The type variables of a type, in a row of the call's own. -/
theorem vars_own (t : S24) (hf : fit t) (hc : chkB t = true) (a : Value) (w : World) (ha : Tr w a t) : Calls Try.prog 53 #[a] w fun e w' => ∃ v, e = .returned (.tuple #[v, .int .i64 0]) ∧ StrR w' w.heap.size v (varsL (preT t) []) ∧ Below w.heap.size w w' := by
  obtain ⟨A, c, rfl, hl, hA⟩ := ha
  obtain ⟨k, hk⟩ := (vars_ev t hf).at
  have hv : varsF t = (varsL (preT t) [], 0) := by unfold varsF; rw [if_pos hc]
  rw [hv] at hk
  exact types_Vars.calls k t.f0 t.f1 A c t.f2 _ _ w hA hl hk
set_option maxHeartbeats 8000000 in
set_option maxRecDepth 100000 in
theorem note_calls (x : S27) (hf : fitM x) (hk : (x.f0 = 3 ∨ x.f0 = 4) ∨ ((x.f0 = 1 ∨ x.f0 = 2 ∨ x.f0 = 5) ∧ chkB x.f2 = true)) (base g : Nat) (vs : List S27) (ts : List ByteArray) (A : Option Addr) (c : Nat) (B : Option Addr) (d : Nat) (w : World) (hgb : g < base) (hbs : base ≤ w.heap.size) (hS : NtS base g vs ts w) (hX : RdF w (fun k => k < g) x A c B d) (hvl : vs.length ≤ 1000000) (htl : ts.length + szT x.f2 ≤ 1000000000000) :
    Calls Try.prog 101 #[.pointer (some ⟨g, 0, none⟩), .agg #[.int .u8 x.f0, .string x.f1, .bool x.f2.f0, .string x.f2.f1, .slice A x.f2.f2.length c, .int .i64 x.f3, .slice B x.f4.length d]] w fun e w' => e = .returned (.tuple #[]) ∧ NtS base g (frStep vs x) (tvStep ts x) w' ∧ NtK g w w' := by
  have hb0 := below_one (w := w) (.cells #[.int .u8 x.f0, .string x.f1, .bool x.f2.f0, .string x.f2.f1, .slice A x.f2.f2.length c, .int .i64 x.f3, .slice B x.f4.length d] 27)
  have BX := blk_new w (.cells #[.int .u8 x.f0, .string x.f1, .bool x.f2.f0, .string x.f2.f1, .slice A x.f2.f2.length c, .int .i64 x.f3, .slice B x.f4.length d] 27)
  have hS0 := hS.later hb0
  have hgw : g < w.heap.size := by omega
  have hK0 := NtK.of_below hgw hb0
  have hX0 := hX.later hb0
  have hnr : ∀ W, Below (w.alloc (.cells #[.int .u8 x.f0, .string x.f1, .bool x.f2.f0, .string x.f2.f1, .slice A x.f2.f2.length c, .int .i64 x.f3, .slice B x.f4.length d] 27)).heap.size (w.alloc (.cells #[.int .u8 x.f0, .string x.f1, .bool x.f2.f0, .string x.f2.f1, .slice A x.f2.f2.length c, .int .i64 x.f3, .slice B x.f4.length d] 27)) W → ¬ NtR W g w.heap.size := fun W hW => hS.not_row (below_step hb0 hW) (Nat.le_refl _)
  have hXW := fun W (hW : NtK g w W) => hX.step (fun k hk _ => hW.below.block k hk)
  have hn1 : ∀ l : List ByteArray, tvStep ts x = (if leafy x.f0 = true then varsL (preT x.f2) ts else ts) := fun _ => rfl
  have hfr : frStep vs x = if x.f0 = 1 then (if hasM vs x = true then vs else vs ++ [x]) else vs := rfl
  obtain ⟨v, u, hB, hV, hU⟩ := id hS0
  obtain ⟨RA, rc, rfl, hrl, hCv⟩ := hV.reads
  obtain ⟨RB, rd, rfl, hul, hCu⟩ := Kd.R_reads hU
  obtain ⟨x0, x1, x2, x3, x4, x5, x6⟩ := box7 BX
  have w0 := (blk_cell hB 0).trans rfl
  have w1 := (blk_cell hB 1).trans rfl
  rcases hk with hk | ⟨hk, hcB⟩
  · have hl : leafy x.f0 = false := by rw [Bool.eq_false_iff]; intro h; have := (leafy_iff _).1 h; omega
    have htv : tvStep ts x = ts := by unfold tvStep; rw [hl]; rfl
    rw [hfr, htv, if_neg (show ¬ x.f0 = 1 by omega)]
    have k1 : (x.f0 == 1) = false := beq_eq_false_iff_ne.mpr (by omega)
    have hk' : ((x.f0 == 4) = true) ∨ ((x.f0 == 4) = false ∧ (x.f0 == 3) = true) := by
      rcases hk with h | h
      · exact .inr ⟨beq_eq_false_iff_ne.mpr (by omega), by rw [h]; rfl⟩
      · exact .inl (by rw [h]; rfl)
    have HS := Aside0.mk hS0
    have HK := Aside0.mk hK0
    clear hS hS0 hK0 hX hX0 hXW hn1 hfr hV hU hf hnr hk hl htv hCv hCu hb0
    rcases hk' with k4 | ⟨k4, k3⟩
    all_goals
      go_enter Try.func101, Try.ntmps101
      go_wp2_with fail
      refine bodyPost_ret (v := .tuple #[]) (by simp [results, Try.results101, go_sem]) rfl ?_
      exact ⟨rfl, HS.out, HK.out⟩
  have hl : leafy x.f0 = true := (leafy_iff _).2 hk
  have htv : tvStep ts x = addNs (varsL (preT x.f2) []) ts := by unfold tvStep; rw [if_pos hl, addNs_vars]
  have k4 : (x.f0 == 4) = false := beq_eq_false_iff_ne.mpr (by omega)
  have k3 : (x.f0 == 3) = false := beq_eq_false_iff_ne.mpr (by omega)
  have hft : fit x.f2 := (allM_top hf.1).2.1
  have evr := fun W (hW : NtK g w W) => vars_own x.f2 hft hcB _ W (RdM.ty (hXW W hW).rd)
  have hvl2 : (varsL (preT x.f2) []).length ≤ szT x.f2 := by have := varsL_len (preT x.f2) []; rw [preT_length] at this; simpa using this
  rw [htv]
  have HTL := Lib.hid htl
  have HLL := Lib.hid hvl2
  by_cases h1 : x.f0 = 1
  · have k1 : (x.f0 == 1) = true := by rw [h1]; rfl
    have hsc := fun W (hW : Below (w.alloc (.cells #[.int .u8 x.f0, .string x.f1, .bool x.f2.f0, .string x.f2.f1, .slice A x.f2.f2.length c, .int .i64 x.f3, .slice B x.f4.length d] 27)).heap.size (w.alloc (.cells #[.int .u8 x.f0, .string x.f1, .bool x.f2.f0, .string x.f2.f1, .slice A x.f2.f2.length c, .int .i64 x.f3, .slice B x.f4.length d] 27)) W) => hasM_calls vs x RA rc A c B d w.heap.size W (Kd.C_below hCv hW) (blk_below BX hW) (hX0.rd.later hW)
    have hgW0 : g < (w.alloc (.cells #[.int .u8 x.f0, .string x.f1, .bool x.f2.f0, .string x.f2.f1, .slice A x.f2.f2.length c, .int .i64 x.f3, .slice B x.f4.length d] 27)).heap.size := hB.lt
    have etw := fun W (hW : NtK g w W) => twinM_calls _ x A c B d W (Nat.le_refl _) hf (hXW W hW).rd
    have HV := Aside0.mk hV
    have HU := Aside0.mk hU
    have HK0 := Aside0.mk hK0
    have HS0 := Aside0.mk hS0
    have HVL := Lib.hid hvl
    clear hS hS0 hK0 hX hX0 hXW hn1 hV hU hk hl htv hCv hCu hft hcB hf hb0 hvl htl hvl2
    cases hh : hasM vs x with
    | true =>
      rw [hh] at hsc
      rw [hfr, if_pos h1, if_pos hh]
      clear etw hfr hh h1 hnr
      go_enter Try.func101, Try.ntmps101
      go_wp2_with (first | (go_at_call 144; (with_reducible refine (hsc _ (Below.refl _ _)).mono ?_); rintro e W1 ⟨rfl, hb1⟩; have HBX1 := Aside0.mk (blk_below BX hb1); have HBW1 := Aside0.mk (show NtB W1 g _ _ from blk_below hB hb1); obtain ⟨x0, x1, x2, x3, x4, x5, x6⟩ := box7 HBX1.out; have w0 := (blk_cell HBW1.out 0).trans rfl; have w1 := (blk_cell HBW1.out 1).trans rfl; have HS2 := Aside0.mk (HS0.out.later hb1); have HK2 := Aside0.mk (HK0.out.trans (NtK.of_below hgW0 hb1))) | (go_at_call 53; (with_reducible refine (evr _ HK2.out).mono ?_); rintro e W4 ⟨v4, rfl, hL, hb4⟩; obtain ⟨RL, rl, hv4, hll, hCL⟩ := Kd.R_reads hL; subst hv4))
      have HS3 := HS2.out
      have hgW := Nat.lt_of_lt_of_le hgw HK2.out.size
      have HS4 := HS3.later hb4
      have HK4 := HK2.out.trans (NtK.of_below hgW hb4)
      have HLR := Aside0.mk (fun wr (hk : NtK g W4 wr) => StrR.kept hgW HS3 hb4 hL hk)
      clear hCL HS3 hL HS2 HK2
      generalize hLq : varsL (preT x.f2) [] = L at *
      have HLQ := Lib.hid hLq
      clear hLq
      go_loopg [7, 48] L.length (fun gg _ v48 wr => ∃ kk : Nat, kk ≤ L.length ∧ gg + kk = L.length ∧ v48 = .int .i64 (kk : Int) ∧ Aside0 (NtS base g (vs) (addNs (L.take kk) ts) wr) ∧ Aside0 (NtK g W4 wr))
      case atStart => exact ⟨0, by omega, by omega, rfl, ⟨HS4⟩, ⟨⟨Below.refl _ _, fun _ _ _ _ => rfl, fun _ h => .inl h⟩⟩⟩
      case round =>
        obtain ⟨kk, hk1, hk2, rfl, HSr, HKr⟩ := hrel
        clear HS4
        obtain ⟨v, u, hBr, hVr, hUr⟩ := id HSr.out
        obtain ⟨RA', rc', rfl, _, _⟩ := hVr.reads
        obtain ⟨RB', rd', rfl, hul', hCu'⟩ := Kd.R_reads hUr
        have w0 := (blk_cell hBr 0).trans rfl
        have w1 := (blk_cell hBr 1).trans rfl
        have hgl := hBr.lt
        by_cases hkk : kk < L.length
        · have q0 : decide (kk < L.length) = true := decide_eq_true hkk
          obtain ⟨RL2, rl2, he2, _, hCL⟩ := Kd.R_reads (HLR.out wr HKr.out)
          injection he2 with he2 _ he3
          subst he2 he3
          obtain ⟨ad, e1, hx⟩ := Kd.at_string hCL (kk : Int) (by omega) (by omega)
          cases e1
          rw [rdOf_get L kk hkk, Int.toNat_natCast] at hx
          have hnx := addNs_take L ts kk hkk
          have hcl := addNs_len (L.take kk) ts
          rw [List.length_take] at hcl
          have HNX := Lib.hid hnx
          have hcf := contains_f (addNs (L.take kk) ts) L[kk] (by have := HTL.out; have := HLL.out; omega)
          have HCL := Lib.hid hcl
          clear hnx hcl hCL
          generalize L[kk] = s at *
          generalize addNs (L.take kk) ts = cur at *
          have hct := fun W (hW : Below wr.heap.size wr W) => slices_Contains_string_string.calls _ RB' rd' cur s _ W (Kd.C_below hCu' hW) hul' hcf
          clear hCu' hcf
          have hbr := Below.refl wr.heap.size wr
          cases hin : inS cur s with
          | true =>
            rw [hin] at hct
            have hadd : addN cur s = cur := by unfold addN; rw [if_pos hin]
            have HADD := Lib.hid hadd
            clear hadd hin
            go_wp2_with (go_at_call 117; (with_reducible refine (hct _ hbr).mono ?_); rintro e W5 ⟨rfl, hd⟩; have hb5 := hd.below)
            go_roundg (L.length - kk - 1)
            case measure => omega
            case rel => exact ⟨kk + 1, by omega, by omega, by simp <;> exact w64s (by have := HTL.out; have := HLL.out; omega), ⟨by rw [HNX.out, HADD.out]; exact HSr.out.later hb5⟩, ⟨HKr.out.trans (NtK.of_below hgl hb5)⟩⟩
          | false =>
            rw [hin] at hct
            have hadd : addN cur s = cur ++ [s] := by unfold addN; rw [if_neg (by rw [hin]; simp)]
            have HADD := Lib.hid hadd
            clear hadd hin
            go_wp2_with (first | ((with_reducible refine gate_dst (N := 66) rfl ?_); refine lock4_ ?_) | (go_at_call 117; (with_reducible refine (hct _ hbr).mono ?_); rintro e W5 ⟨rfl, hd⟩; have hb5 := hd.below; have hB5 := blk_below hBr hb5; have w0 := (blk_cell hB5 0).trans rfl; have w1 := (blk_cell hB5 1).trans rfl))
            unfold Lock4
            have hS5 := HSr.out.later hb5
            have hbs5 : base ≤ W5.heap.size := Nat.le_trans hbs (Nat.le_trans (HK4.trans HKr.out).size hb5.size)
            refine Kd.R_append Kd.string (w0 := W5) base (by rfl) (.tmp 63) (.tmp 65) 43 9 (.string ⟨#[]⟩) 16 (by rfl) Try.underlying43 info_str (by rfl) (by decide) (by decide) (.slice RB' cur.length rd') cur s [.string s] (fun _ => True) (fun _ => False) (by rfl) (by rfl) rfl (fun _ h => h.elim) (fun _ _ => trivial) (Kd.R_below hUr hb5) (Below.refl _ _) hbs5 (by have := HTL.out; have := HCL.out; have := HLL.out; omega) ?_
            intro v2 W6 hR6 hB6 hg6 hat6
            obtain ⟨RC, re, hv2, _, _⟩ := Kd.R_reads hR6
            rw [show (cur ++ [s]).length = cur.length + 1 by simp] at hv2
            subst hv2
            have hfin := Nt_str hgb hB5 (hVr.later hb5) (Kd.R_below hUr hb5) hR6 hB6 hg6 hat6
            have HFIN := Aside0.mk hfin
            have hB6' : W6.heap[g]? = some (.cells #[.slice RA' (vs).length rc', .slice RB' cur.length rd'] 126 (0, 0)) := (hg6.block g (blk_lt hB5) (fun e => by obtain ⟨_, _, ho, _⟩ := Kd.R_below hUr hb5; have := own_base ho g e.symm; omega)).trans hB5
            clear hfin hR6 hB6 hg6 hat6 w0 w1
            have w0 := (blk_cell hB6' 0).trans rfl
            have w1 := (blk_cell hB6' 1).trans rfl
            have r1 := blk_frozen hB6' 1
            clear hct
            go_wp2_with fail
            go_roundg (L.length - kk - 1)
            case measure => omega
            case rel => exact ⟨kk + 1, by omega, by omega, by simp <;> exact w64s (by have := HTL.out; have := HLL.out; omega), ⟨by rw [HNX.out, HADD.out]; exact HFIN.out.1⟩, ⟨(HKr.out.trans (NtK.of_below hgl hb5)).trans HFIN.out.2⟩⟩
        · have q0 : decide (kk < L.length) = false := decide_eq_false hkk
          obtain rfl : kk = L.length := by omega
          have HSE := HSr.out
          rw [List.take_length] at HSE
          have HSEA := Aside0.mk HSE
          clear HSE hkk
          go_wp2_with fail
          refine bodyPost_end (v := .tuple #[]) (by simp [results, Try.results101, go_sem]) rfl ?_
          exact ⟨rfl, by rw [HLQ.out]; exact HSEA.out, HK4.trans HKr.out⟩
    | false =>
      rw [hh] at hsc
      rw [hfr, if_pos h1, if_neg (by rw [hh]; simp)]
      clear hfr hh h1
      go_enter Try.func101, Try.ntmps101
      go_upto_if 19 with (go_at_call 144; (with_reducible refine (hsc _ (Below.refl _ _)).mono ?_); rintro e W1 ⟨rfl, hb1⟩; have HBX1 := Aside0.mk (blk_below BX hb1); have HBW1 := Aside0.mk (show NtB W1 g _ _ from blk_below hB hb1); obtain ⟨x0, x1, x2, x3, x4, x5, x6⟩ := box7 HBX1.out; have w0 := (blk_cell HBW1.out 0).trans rfl; have w1 := (blk_cell HBW1.out 1).trans rfl; have HS2 := Aside0.mk (HS0.out.later hb1); have HK2 := Aside0.mk (HK0.out.trans (NtK.of_below hgW0 hb1)))
      go_cut [] from 8 (fun wc => Aside0 (NtS base g (vs ++ [x]) ts wc) ∧ Aside0 (NtK g w wc) ∧ BxM wc w.heap.size x A c B d)
      case rest =>
        clear HS2 HK2 x0 x1 x2 x3 x4 x5 x6 w0 w1 hsc etw HBX1 HBW1
        obtain ⟨HS2, HK2, x0, x1, x2, x3, x4, x5, x6⟩ := hcut
        have w0 := trivial
        have w1 := trivial
        go_wp2_with (go_at_call 53; (with_reducible refine (evr _ HK2.out).mono ?_); rintro e W4 ⟨v4, rfl, hL, hb4⟩; obtain ⟨RL, rl, hv4, hll, hCL⟩ := Kd.R_reads hL; subst hv4)
        have HS3 := HS2.out
        have hgW := Nat.lt_of_lt_of_le hgw HK2.out.size
        have HS4 := HS3.later hb4
        have HK4 := HK2.out.trans (NtK.of_below hgW hb4)
        have HLR := Aside0.mk (fun wr (hk : NtK g W4 wr) => StrR.kept hgW HS3 hb4 hL hk)
        clear hCL HS3 hL HS2 HK2
        generalize hLq : varsL (preT x.f2) [] = L at *
        have HLQ := Lib.hid hLq
        clear hLq
        go_loopg [7, 48] L.length (fun gg _ v48 wr => ∃ kk : Nat, kk ≤ L.length ∧ gg + kk = L.length ∧ v48 = .int .i64 (kk : Int) ∧ Aside0 (NtS base g (vs ++ [x]) (addNs (L.take kk) ts) wr) ∧ Aside0 (NtK g W4 wr))
        case atStart => exact ⟨0, by omega, by omega, rfl, ⟨HS4⟩, ⟨⟨Below.refl _ _, fun _ _ _ _ => rfl, fun _ h => .inl h⟩⟩⟩
        case round =>
          obtain ⟨kk, hk1, hk2, rfl, HSr, HKr⟩ := hrel
          clear HS4
          obtain ⟨v, u, hBr, hVr, hUr⟩ := id HSr.out
          obtain ⟨RA', rc', rfl, _, _⟩ := hVr.reads
          obtain ⟨RB', rd', rfl, hul', hCu'⟩ := Kd.R_reads hUr
          have w0 := (blk_cell hBr 0).trans rfl
          have w1 := (blk_cell hBr 1).trans rfl
          have hgl := hBr.lt
          by_cases hkk : kk < L.length
          · have q0 : decide (kk < L.length) = true := decide_eq_true hkk
            obtain ⟨RL2, rl2, he2, _, hCL⟩ := Kd.R_reads (HLR.out wr HKr.out)
            injection he2 with he2 _ he3
            subst he2 he3
            obtain ⟨ad, e1, hx⟩ := Kd.at_string hCL (kk : Int) (by omega) (by omega)
            cases e1
            rw [rdOf_get L kk hkk, Int.toNat_natCast] at hx
            have hnx := addNs_take L ts kk hkk
            have hcl := addNs_len (L.take kk) ts
            rw [List.length_take] at hcl
            have HNX := Lib.hid hnx
            have hcf := contains_f (addNs (L.take kk) ts) L[kk] (by have := HTL.out; have := HLL.out; omega)
            have HCL := Lib.hid hcl
            clear hnx hcl hCL
            generalize L[kk] = s at *
            generalize addNs (L.take kk) ts = cur at *
            have hct := fun W (hW : Below wr.heap.size wr W) => slices_Contains_string_string.calls _ RB' rd' cur s _ W (Kd.C_below hCu' hW) hul' hcf
            clear hCu' hcf
            have hbr := Below.refl wr.heap.size wr
            cases hin : inS cur s with
            | true =>
              rw [hin] at hct
              have hadd : addN cur s = cur := by unfold addN; rw [if_pos hin]
              have HADD := Lib.hid hadd
              clear hadd hin
              go_wp2_with (go_at_call 117; (with_reducible refine (hct _ hbr).mono ?_); rintro e W5 ⟨rfl, hd⟩; have hb5 := hd.below)
              go_roundg (L.length - kk - 1)
              case measure => omega
              case rel => exact ⟨kk + 1, by omega, by omega, by simp <;> exact w64s (by have := HTL.out; have := HLL.out; omega), ⟨by rw [HNX.out, HADD.out]; exact HSr.out.later hb5⟩, ⟨HKr.out.trans (NtK.of_below hgl hb5)⟩⟩
            | false =>
              rw [hin] at hct
              have hadd : addN cur s = cur ++ [s] := by unfold addN; rw [if_neg (by rw [hin]; simp)]
              have HADD := Lib.hid hadd
              clear hadd hin
              go_wp2_with (first | ((with_reducible refine gate_dst (N := 66) rfl ?_); refine lock4_ ?_) | (go_at_call 117; (with_reducible refine (hct _ hbr).mono ?_); rintro e W5 ⟨rfl, hd⟩; have hb5 := hd.below; have hB5 := blk_below hBr hb5; have w0 := (blk_cell hB5 0).trans rfl; have w1 := (blk_cell hB5 1).trans rfl))
              unfold Lock4
              have hS5 := HSr.out.later hb5
              have hbs5 : base ≤ W5.heap.size := Nat.le_trans hbs (Nat.le_trans (HK4.trans HKr.out).size hb5.size)
              refine Kd.R_append Kd.string (w0 := W5) base (by rfl) (.tmp 63) (.tmp 65) 43 9 (.string ⟨#[]⟩) 16 (by rfl) Try.underlying43 info_str (by rfl) (by decide) (by decide) (.slice RB' cur.length rd') cur s [.string s] (fun _ => True) (fun _ => False) (by rfl) (by rfl) rfl (fun _ h => h.elim) (fun _ _ => trivial) (Kd.R_below hUr hb5) (Below.refl _ _) hbs5 (by have := HTL.out; have := HCL.out; have := HLL.out; omega) ?_
              intro v2 W6 hR6 hB6 hg6 hat6
              obtain ⟨RC, re, hv2, _, _⟩ := Kd.R_reads hR6
              rw [show (cur ++ [s]).length = cur.length + 1 by simp] at hv2
              subst hv2
              have hfin := Nt_str hgb hB5 (hVr.later hb5) (Kd.R_below hUr hb5) hR6 hB6 hg6 hat6
              have HFIN := Aside0.mk hfin
              have hB6' : W6.heap[g]? = some (.cells #[.slice RA' (vs ++ [x]).length rc', .slice RB' cur.length rd'] 126 (0, 0)) := (hg6.block g (blk_lt hB5) (fun e => by obtain ⟨_, _, ho, _⟩ := Kd.R_below hUr hb5; have := own_base ho g e.symm; omega)).trans hB5
              clear hfin hR6 hB6 hg6 hat6 w0 w1
              have w0 := (blk_cell hB6' 0).trans rfl
              have w1 := (blk_cell hB6' 1).trans rfl
              have r1 := blk_frozen hB6' 1
              clear hct
              go_wp2_with fail
              go_roundg (L.length - kk - 1)
              case measure => omega
              case rel => exact ⟨kk + 1, by omega, by omega, by simp <;> exact w64s (by have := HTL.out; have := HLL.out; omega), ⟨by rw [HNX.out, HADD.out]; exact HFIN.out.1⟩, ⟨(HKr.out.trans (NtK.of_below hgl hb5)).trans HFIN.out.2⟩⟩
          · have q0 : decide (kk < L.length) = false := decide_eq_false hkk
            obtain rfl : kk = L.length := by omega
            have HSE := HSr.out
            rw [List.take_length] at HSE
            have HSEA := Aside0.mk HSE
            clear HSE hkk
            go_wp2_with fail
            refine bodyPost_end (v := .tuple #[]) (by simp [results, Try.results101, go_sem]) rfl ?_
            exact ⟨rfl, by rw [HLQ.out]; exact HSEA.out, HK4.trans HKr.out⟩
      case first =>
      go_wp2_with fail
      have hgW1 := HBW1.out.lt
      have HK1 := HK2
      have et := fun W (hW : Below W1.heap.size W1 W) => etw W (HK1.out.trans (NtK.of_below hgW1 hW))
      have HV1 := Aside0.mk (HV.out.later hb1)
      have HU1 := Aside0.mk (Kd.R_below HU.out hb1)
      have hbW1 := hb1
      have HBS1 := Aside0.mk (Nat.le_trans hbs HK1.out.size)
      have hD := below_drew1 (Below.refl W1.heap.size W1)
      have hbc := hD
      have hBc := blk_below HBW1.out hD
      have hXc := blk_below HBX1.out hD
      clear HS2 HK2 hsc etw HV HU HK0 HS0 w0 w1 x0 x1 x2 x3 x4 x5 x6 BX hB
      refine wp_region_held_drew (S := fun W => BxM W w.heap.size x A c B d) (by kernel_rfl) (by exact box7 hXc) (fun hHeld => ?_)
      refine wpAnyH_take (i := 0) (oi := ntO0) (v := ?_) rfl (by kernel_rfl) (by kernel_rfl) (by kernel_rfl) (fun _ _ _ h => h) (Or.inl ⟨by rfl, ?_⟩) (by assumption) ?_
      rotate_left
      · intro w' hSw; (try dsimp only at hSw); (try dsimp only [ntO0]); go_simp; try with_reducible rfl
      try simp only [ntO0]
      try simp only [Act.put, List.setIfInBounds_toArray, List.set_cons_zero, List.set_cons_succ]
      refine wpAnyH_take (i := 1) (oi := ntO1) (v := ?_) rfl (by kernel_rfl) (by kernel_rfl) (by kernel_rfl) (fun _ _ _ h => h) (Or.inl ⟨by rfl, ?_⟩) (by assumption) ?_
      rotate_left
      · intro w' hSw; (try dsimp only at hSw); (try dsimp only [ntO1]); go_simp; try with_reducible rfl
      try simp only [ntO1]
      try simp only [Act.put, List.setIfInBounds_toArray, List.set_cons_zero, List.set_cons_succ]
      refine wpAnyH_take (i := 2) (oi := ntO2) (v := ?_) rfl (by kernel_rfl) (by kernel_rfl) (by kernel_rfl) (fun _ _ _ h => h) (Or.inl ⟨by rfl, ?_⟩) (by assumption) ?_
      rotate_left
      · intro w' hSw; (try dsimp only at hSw); (try dsimp only [ntO2]); go_simp; try with_reducible rfl
      try simp only [ntO2]
      try simp only [Act.put, List.setIfInBounds_toArray, List.set_cons_zero, List.set_cons_succ]
      refine wpAnyH_take (i := 4) (oi := ntO4) (v := ?_) rfl (by kernel_rfl) (by kernel_rfl) (by kernel_rfl) (fun _ _ _ h => h) (Or.inl ⟨by rfl, ?_⟩) (by assumption) ?_
      rotate_left
      · intro w' hSw; (try dsimp only at hSw); (try dsimp only [ntO4]); go_simp; try with_reducible rfl
      try simp only [ntO4]
      try simp only [Act.put, List.setIfInBounds_toArray, List.set_cons_zero, List.set_cons_succ]
      refine wpAnyH_ready (rs := [3, 5, 7]) (by kernel_rfl) (by simp) ?_
      refine AllReadyH.cons (o := ntO3) rfl (fun K hK => ?_) (AllReadyH.cons (o := ntO5) rfl (fun K hK => ?_) (AllReadyH.cons (o := ntO7) rfl (fun K hK => ?_) AllReadyH.nil))
      · dsimp only [ntO3]
        have wc0 := (blk_cell hBc 0).trans rfl
        go_simp
        refine hK.out _ _ (by exact box7 hXc) (fun hHeld => ?_)
        clear hK K
        try simp only [Act.put, List.setIfInBounds_toArray, List.set_cons_zero, List.set_cons_succ]
        refine wpAnyH_take (i := 6) (oi := ntO6) (v := ?_) rfl (by kernel_rfl) (by kernel_rfl) (by kernel_rfl) (fun _ _ _ h => h) (Or.inl ⟨by rfl, ?_⟩) (by assumption) ?_
        rotate_left
        · intro w' hSw; (try dsimp only at hSw); (try dsimp only [ntO6]); go_simp; try with_reducible rfl
        try simp only [ntO6]
        try simp only [Act.put, List.setIfInBounds_toArray, List.set_cons_zero, List.set_cons_succ]
        refine wpAnyH_ready (rs := [5, 7]) (by kernel_rfl) (by simp) ?_
        refine AllReadyH.cons (o := ntO5) rfl (fun K hK => ?_) (AllReadyH.cons (o := ntO7) rfl (fun K hK => ?_) AllReadyH.nil)
        · dsimp only [ntO5]
          go_simp
          go_wp2_with (go_at_call 28; (with_reducible refine (et _ hbc).mono ?_); rintro e w5 ⟨r5, rfl, hO5, hb5⟩; obtain ⟨vt, vs5, hr5, hT5, hM5⟩ := hO5; subst hr5; obtain ⟨At, ct, hvt, _, _⟩ := hT5.reads; subst hvt; obtain ⟨Bt, dt, hvs, _, _⟩ := hM5.reads; subst hvs)
          have HLT := Aside0.mk hbc.size
          replace hBc := blk_below hBc hb5
          replace hXc := blk_below hXc hb5
          replace hbc := below_step hbc hb5
          refine hK.out _ _ (by exact box7 hXc) (fun hHeld => ?_)
          clear hK K
          try simp only [Act.put, List.setIfInBounds_toArray, List.set_cons_zero, List.set_cons_succ]
          refine wpAnyH_ready (rs := [7]) (by kernel_rfl) (by simp) ?_
          refine AllReadyH.cons (o := ntO7) rfl (fun K hK => ?_) AllReadyH.nil
          dsimp only [ntO7]
          go_simp
          have hbn := below_one (w := w5) (.cells #[.int .u8 0, .string ⟨#[]⟩, .bool false, .string ⟨#[]⟩, .slice none 0 0, .int .i64 0, .slice none 0 0] 27)
          replace hBc := blk_below hBc hbn
          replace hXc := blk_below hXc hbn
          replace hbc := below_step hbc hbn
          have hnews := blk_new w5 (.cells #[.int .u8 0, .string ⟨#[]⟩, .bool false, .string ⟨#[]⟩, .slice none 0 0, .int .i64 0, .slice none 0 0] 27)
          replace hT5 := hT5.later hbn
          replace hM5 := hM5.later hbn
          refine hK.out _ _ (by exact box7 hXc) (fun hHeld => ?_)
          clear hK K
          try simp only [Act.put, List.setIfInBounds_toArray, List.set_cons_zero, List.set_cons_succ]
          obtain ⟨i0, hi0, hz0, hz1, hz2⟩ := info_parts info27
          obtain ⟨inner, tsf, ssf, hrow, hel⟩ := id HV1.out
          have hlow : ∀ k, W1.heap.size ≤ k → w.heap.size ≤ k := fun k hk => Nat.le_trans (Nat.le_of_lt (blk_lt HBX1.out)) hk
          refine wpAnyH_ready (rs := [8]) (by kernel_rfl) (by simp) ?_
          refine AllReadyH.cons (o := ntO8) rfl (fun K hK => ?_) AllReadyH.nil
          refine step_append_lies _ rfl _ _ 25 rfl base 27 i0 _ 7 104 Try.underlying25 hi0 hz0 hz1 hz2 rfl (by decide) (.slice RA vs.length rc) vs.length inner rfl (own_later hrow hbc) ⟨w5.heap.size, 0, none⟩ 1 1 [.int .u8 0, .string ⟨#[]⟩, .bool false, .string ⟨#[]⟩, .slice none 0 0, .int .i64 0, .slice none 0 0] rfl rfl (World.news_of_block hnews) ?hone (by decide) ?h63 ?hby ?hbase _ rfl ?_
          case hone => simp [Value.oneCell']
          case h63 => have := HVL.out; unfold maxLen; omega
          case hby => have := HVL.out; omega
          case hbase => have := hbc.size; have := HBS1.out; omega
          intro g' cap w3 hown3 hgr hat hg3
          have hvb : ∀ k, (Value.slice RA vs.length rc).ownBlock = some k → base ≤ k := fun k hk => own_base hrow k hk
          have hvx : some w.heap.size ≠ (Value.slice RA vs.length rc).ownBlock := fun e => hnr _ hbW1 ⟨_, _, HBW1.out, .inl e.symm⟩
          have hB3 := (hgr.block g (blk_lt hBc) (fun e => by have := hvb g e.symm; omega)).trans hBc
          have hX3 := (hgr.block w.heap.size (blk_lt hXc) hvx).trans hXc
          have hil : inner.length = vs.length * 7 := hrow.1
          have hl1 : (vs.length : Int) < (vs.length : Int) + 1 := by omega
          obtain ⟨p0, p1, p2, p3, p4, p5, p6, q0, q1, q2, q3, q4, q5, q6⟩ := own_cells7 hil hown3
          refine hK.out _ _ (by exact box7 hX3) (fun hHeld => ?_)
          clear hK K
          try simp only [Act.put, List.setIfInBounds_toArray, List.set_cons_zero, List.set_cons_succ]
          refine wpAnyH_take (i := 9) (oi := ntO9) (v := ?_) rfl (by kernel_rfl) (by kernel_rfl) (by kernel_rfl) (fun _ _ _ h => h) (Or.inl ⟨by rfl, ?_⟩) (by assumption) ?_
          rotate_left
          · intro w' hSw; (try dsimp only at hSw); (try dsimp only [ntO9]); go_simp; try with_reducible rfl
          try simp only [ntO9]
          try simp only [Act.put, List.setIfInBounds_toArray, List.set_cons_zero, List.set_cons_succ]
          refine wpAnyH_take (i := 11) (oi := ntO11) (v := ?_) rfl (by kernel_rfl) (by kernel_rfl) (by kernel_rfl) (fun _ _ _ h => h) (Or.inl ⟨by rfl, ?_⟩) (by assumption) ?_
          rotate_left
          · intro w' hSw; (try dsimp only at hSw); (try dsimp only [ntO11]); go_simp; try with_reducible rfl
          try simp only [ntO11]
          try simp only [Act.put, List.setIfInBounds_toArray, List.set_cons_zero, List.set_cons_succ]
          refine wpAnyH_take (i := 12) (oi := ntO12) (v := ?_) rfl (by kernel_rfl) (by kernel_rfl) (by kernel_rfl) (fun _ _ _ h => h) (Or.inl ⟨by rfl, ?_⟩) (by assumption) ?_
          rotate_left
          · intro w' hSw; (try dsimp only at hSw); (try dsimp only [ntO12]); go_simp; try with_reducible rfl
          try simp only [ntO12]
          try simp only [Act.put, List.setIfInBounds_toArray, List.set_cons_zero, List.set_cons_succ]
          have hgg : g ≠ g' := fun e => by
            rcases hat with h | h
            · have := hvb _ h; omega
            · have := blk_lt hBc; omega
          have hxg : w.heap.size ≠ g' := fun e => by
            rcases hat with h | h
            · exact hvx (by rw [e, h])
            · have := blk_lt hXc; omega
          have hxg2 : w.heap.size ≠ g := by omega
          refine wpAnyH_ready (rs := [10, 13]) (by kernel_rfl) (by simp) ?_
          refine AllReadyH.cons (o := ntO10) rfl (fun K hK => ?_) (AllReadyH.cons (o := ntO13) rfl (fun K hK => ?_) AllReadyH.nil)
          · dsimp only [ntO10]
            go_simp
            refine hK.out _ _ (by exact box7 (blk_far (blk_far (blk_far (blk_far (blk_far (blk_far (blk_far (hX3) (by (try dsimp only); exact hxg) _) (by (try dsimp only); exact hxg) _) (by (try dsimp only); exact hxg) _) (by (try dsimp only); exact hxg) _) (by (try dsimp only); exact hxg) _) (by (try dsimp only); exact hxg) _) (by (try dsimp only); exact hxg) _)) (fun hHeld => ?_)
            clear hK K
            try simp only [Act.put, List.setIfInBounds_toArray, List.set_cons_zero, List.set_cons_succ]
            have hB4 : ((((((((w3).setCell ⟨g', vs.length * 7, none⟩ (.int .u8 x.f0)).setCell ⟨g', vs.length * 7 + 1, none⟩ (.string x.f1)).setCell ⟨g', vs.length * 7 + 2, none⟩ (.bool x.f2.f0)).setCell ⟨g', vs.length * 7 + 3, none⟩ (.string x.f2.f1)).setCell ⟨g', vs.length * 7 + 4, none⟩ (.slice At x.f2.f2.length ct)).setCell ⟨g', vs.length * 7 + 5, none⟩ (.int .i64 x.f3)).setCell ⟨g', vs.length * 7 + 6, none⟩ (.slice Bt x.f4.length dt)).heap[g]? = some (.cells #[.slice RA vs.length rc, .slice RB ts.length rd] 126 (0, 0)) := blk_far (blk_far (blk_far (blk_far (blk_far (blk_far (blk_far (hB3) (by (try dsimp only); exact hgg) _) (by (try dsimp only); exact hgg) _) (by (try dsimp only); exact hgg) _) (by (try dsimp only); exact hgg) _) (by (try dsimp only); exact hgg) _) (by (try dsimp only); exact hgg) _) (by (try dsimp only); exact hgg) _
            have wc0 := (blk_cell hB4 0).trans rfl
            have rc0 := blk_frozen hB4 0
            refine wpAnyH_ready (rs := [13]) (by kernel_rfl) (by simp) ?_
            refine AllReadyH.cons (o := ntO13) rfl (fun K hK => ?_) AllReadyH.nil
            dsimp only [ntO13]
            go_simp
            refine hK.out _ _ (by exact box7 (blk_far (blk_far (blk_far (blk_far (blk_far (blk_far (blk_far (blk_far (hX3) (by (try dsimp only); exact hxg) _) (by (try dsimp only); exact hxg) _) (by (try dsimp only); exact hxg) _) (by (try dsimp only); exact hxg) _) (by (try dsimp only); exact hxg) _) (by (try dsimp only); exact hxg) _) (by (try dsimp only); exact hxg) _) (by (try dsimp only); exact hxg2) _)) (fun hHeld => ?_)
            clear hK K
            try simp only [Act.put, List.setIfInBounds_toArray, List.set_cons_zero, List.set_cons_succ]
            clear hB4 wc0 rc0
            have hW5 := Nt_wa (ut := .slice At x.f2.f2.length ct) (us := .slice Bt x.f4.length dt) (x := x) hil hgb (blk_lt hBc) hBc hvb (by have := hbc.size; have := HBS1.out; omega) hown3 hgr hat
            have hP := Nt_push (ts := ts) hgb HBS1.out HBW1.out hrow hel HU1.out hbc (hT5.mono (fun k hk => Nat.le_trans HLT.out hk)) (hM5.mono (fun k hk => Nat.le_trans HLT.out hk)) hat hW5
            have HS2 := Aside0.mk hP.1
            have HK2 := Aside0.mk (HK1.out.trans hP.2)
            have hX9 := hP.2.blk HBX1.out (by omega) (hnr _ hbW1)
            obtain ⟨x0, x1, x2, x3, x4, x5, x6⟩ := box7 hX9
            clear hW5 hP hB3 hX3 p0 p1 p2 p3 p4 p5 p6 q0 q1 q2 q3 q4 q5 q6 hown3 hgr hat hBc hXc hT5 hM5 hrow hel hX9 hnews
            refine wpAnyH_done (by kernel_rfl) ?_ _
            go_wp2_with fail
            go_meet
            case rel => exact ⟨HS2, HK2, x0, x1, x2, x3, x4, x5, x6⟩
          · have wc0 := (blk_cell hB3 0).trans rfl
            have rc0 := blk_frozen hB3 0
            dsimp only [ntO13]
            go_simp
            refine hK.out _ _ (by exact box7 (blk_far hX3 (by (try dsimp only); exact hxg2) _)) (fun hHeld => ?_)
            clear hK K
            try simp only [Act.put, List.setIfInBounds_toArray, List.set_cons_zero, List.set_cons_succ]
            have hown4 := own_move (w1 := w3.setCell ⟨g, 0, none⟩ (.slice (some ⟨g', 0, none⟩) (vs.length + 1) cap)) hown3 (fun k hk => Below.heap_setCell _ _ _ k (own_slice_ne hk hgg))
            clear p0 p1 p2 p3 p4 p5 p6 q0 q1 q2 q3 q4 q5 q6 wc0 rc0
            obtain ⟨p0, p1, p2, p3, p4, p5, p6, q0, q1, q2, q3, q4, q5, q6⟩ := own_cells7 hil hown4
            refine wpAnyH_ready (rs := [10]) (by kernel_rfl) (by simp) ?_
            refine AllReadyH.cons (o := ntO10) rfl (fun K hK => ?_) AllReadyH.nil
            dsimp only [ntO10]
            go_simp
            refine hK.out _ _ (by exact box7 (blk_far (blk_far (blk_far (blk_far (blk_far (blk_far (blk_far ((blk_far hX3 (by (try dsimp only); exact hxg2) _)) (by (try dsimp only); exact hxg) _) (by (try dsimp only); exact hxg) _) (by (try dsimp only); exact hxg) _) (by (try dsimp only); exact hxg) _) (by (try dsimp only); exact hxg) _) (by (try dsimp only); exact hxg) _) (by (try dsimp only); exact hxg) _)) (fun hHeld => ?_)
            clear hK K
            try simp only [Act.put, List.setIfInBounds_toArray, List.set_cons_zero, List.set_cons_succ]
            clear hown4
            have hW5 := Nt_wb (ut := .slice At x.f2.f2.length ct) (us := .slice Bt x.f4.length dt) (x := x) hil hgb (blk_lt hBc) hBc hvb (by have := hbc.size; have := HBS1.out; omega) hown3 hgr hat
            have hP := Nt_push (ts := ts) hgb HBS1.out HBW1.out hrow hel HU1.out hbc (hT5.mono (fun k hk => Nat.le_trans HLT.out hk)) (hM5.mono (fun k hk => Nat.le_trans HLT.out hk)) hat hW5
            have HS2 := Aside0.mk hP.1
            have HK2 := Aside0.mk (HK1.out.trans hP.2)
            have hX9 := hP.2.blk HBX1.out (by omega) (hnr _ hbW1)
            obtain ⟨x0, x1, x2, x3, x4, x5, x6⟩ := box7 hX9
            clear hW5 hP hB3 hX3 p0 p1 p2 p3 p4 p5 p6 q0 q1 q2 q3 q4 q5 q6 hown3 hgr hat hBc hXc hT5 hM5 hrow hel hX9 hnews
            refine wpAnyH_done (by kernel_rfl) ?_ _
            go_wp2_with fail
            go_meet
            case rel => exact ⟨HS2, HK2, x0, x1, x2, x3, x4, x5, x6⟩
        · dsimp only [ntO7]
          go_simp
          replace hbc := below_drew1 (below_one (w := W1) (.cells #[.int .u8 0, .string ⟨#[]⟩, .bool false, .string ⟨#[]⟩, .slice none 0 0, .int .i64 0, .slice none 0 0] 27))
          replace hBc := blk_below HBW1.out hbc
          replace hXc := blk_below HBX1.out hbc
          have hnews := blk_below (blk_new W1 (.cells #[.int .u8 0, .string ⟨#[]⟩, .bool false, .string ⟨#[]⟩, .slice none 0 0, .int .i64 0, .slice none 0 0] 27)) (below_drew1 (Below.refl _ _))
          refine hK.out _ _ (by exact box7 hXc) (fun hHeld => ?_)
          clear hK K
          try simp only [Act.put, List.setIfInBounds_toArray, List.set_cons_zero, List.set_cons_succ]
          refine wpAnyH_ready (rs := [5]) (by kernel_rfl) (by simp) ?_
          refine AllReadyH.cons (o := ntO5) rfl (fun K hK => ?_) AllReadyH.nil
          dsimp only [ntO5]
          go_simp
          go_wp2_with (go_at_call 28; (with_reducible refine (et _ hbc).mono ?_); rintro e w5 ⟨r5, rfl, hO5, hb5⟩; obtain ⟨vt, vs5, hr5, hT5, hM5⟩ := hO5; subst hr5; obtain ⟨At, ct, hvt, _, _⟩ := hT5.reads; subst hvt; obtain ⟨Bt, dt, hvs, _, _⟩ := hM5.reads; subst hvs)
          have HLT := Aside0.mk hbc.size
          replace hBc := blk_below hBc hb5
          replace hXc := blk_below hXc hb5
          have hnews := blk_below hnews hb5
          replace hbc := below_step hbc hb5
          refine hK.out _ _ (by exact box7 hXc) (fun hHeld => ?_)
          clear hK K
          try simp only [Act.put, List.setIfInBounds_toArray, List.set_cons_zero, List.set_cons_succ]
          obtain ⟨i0, hi0, hz0, hz1, hz2⟩ := info_parts info27
          obtain ⟨inner, tsf, ssf, hrow, hel⟩ := id HV1.out
          have hlow : ∀ k, W1.heap.size ≤ k → w.heap.size ≤ k := fun k hk => Nat.le_trans (Nat.le_of_lt (blk_lt HBX1.out)) hk
          refine wpAnyH_ready (rs := [8]) (by kernel_rfl) (by simp) ?_
          refine AllReadyH.cons (o := ntO8) rfl (fun K hK => ?_) AllReadyH.nil
          refine step_append_lies _ rfl _ _ 25 rfl base 27 i0 _ 7 104 Try.underlying25 hi0 hz0 hz1 hz2 rfl (by decide) (.slice RA vs.length rc) vs.length inner rfl (own_later hrow hbc) ⟨W1.heap.size, 0, none⟩ 1 1 [.int .u8 0, .string ⟨#[]⟩, .bool false, .string ⟨#[]⟩, .slice none 0 0, .int .i64 0, .slice none 0 0] rfl rfl (World.news_of_block hnews) ?hone (by decide) ?h63 ?hby ?hbase _ rfl ?_
          case hone => simp [Value.oneCell']
          case h63 => have := HVL.out; unfold maxLen; omega
          case hby => have := HVL.out; omega
          case hbase => have := hbc.size; have := HBS1.out; omega
          intro g' cap w3 hown3 hgr hat hg3
          have hvb : ∀ k, (Value.slice RA vs.length rc).ownBlock = some k → base ≤ k := fun k hk => own_base hrow k hk
          have hvx : some w.heap.size ≠ (Value.slice RA vs.length rc).ownBlock := fun e => hnr _ hbW1 ⟨_, _, HBW1.out, .inl e.symm⟩
          have hB3 := (hgr.block g (blk_lt hBc) (fun e => by have := hvb g e.symm; omega)).trans hBc
          have hX3 := (hgr.block w.heap.size (blk_lt hXc) hvx).trans hXc
          have hil : inner.length = vs.length * 7 := hrow.1
          have hl1 : (vs.length : Int) < (vs.length : Int) + 1 := by omega
          obtain ⟨p0, p1, p2, p3, p4, p5, p6, q0, q1, q2, q3, q4, q5, q6⟩ := own_cells7 hil hown3
          refine hK.out _ _ (by exact box7 hX3) (fun hHeld => ?_)
          clear hK K
          try simp only [Act.put, List.setIfInBounds_toArray, List.set_cons_zero, List.set_cons_succ]
          refine wpAnyH_take (i := 9) (oi := ntO9) (v := ?_) rfl (by kernel_rfl) (by kernel_rfl) (by kernel_rfl) (fun _ _ _ h => h) (Or.inl ⟨by rfl, ?_⟩) (by assumption) ?_
          rotate_left
          · intro w' hSw; (try dsimp only at hSw); (try dsimp only [ntO9]); go_simp; try with_reducible rfl
          try simp only [ntO9]
          try simp only [Act.put, List.setIfInBounds_toArray, List.set_cons_zero, List.set_cons_succ]
          refine wpAnyH_take (i := 11) (oi := ntO11) (v := ?_) rfl (by kernel_rfl) (by kernel_rfl) (by kernel_rfl) (fun _ _ _ h => h) (Or.inl ⟨by rfl, ?_⟩) (by assumption) ?_
          rotate_left
          · intro w' hSw; (try dsimp only at hSw); (try dsimp only [ntO11]); go_simp; try with_reducible rfl
          try simp only [ntO11]
          try simp only [Act.put, List.setIfInBounds_toArray, List.set_cons_zero, List.set_cons_succ]
          refine wpAnyH_take (i := 12) (oi := ntO12) (v := ?_) rfl (by kernel_rfl) (by kernel_rfl) (by kernel_rfl) (fun _ _ _ h => h) (Or.inl ⟨by rfl, ?_⟩) (by assumption) ?_
          rotate_left
          · intro w' hSw; (try dsimp only at hSw); (try dsimp only [ntO12]); go_simp; try with_reducible rfl
          try simp only [ntO12]
          try simp only [Act.put, List.setIfInBounds_toArray, List.set_cons_zero, List.set_cons_succ]
          have hgg : g ≠ g' := fun e => by
            rcases hat with h | h
            · have := hvb _ h; omega
            · have := blk_lt hBc; omega
          have hxg : w.heap.size ≠ g' := fun e => by
            rcases hat with h | h
            · exact hvx (by rw [e, h])
            · have := blk_lt hXc; omega
          have hxg2 : w.heap.size ≠ g := by omega
          refine wpAnyH_ready (rs := [10, 13]) (by kernel_rfl) (by simp) ?_
          refine AllReadyH.cons (o := ntO10) rfl (fun K hK => ?_) (AllReadyH.cons (o := ntO13) rfl (fun K hK => ?_) AllReadyH.nil)
          · dsimp only [ntO10]
            go_simp
            refine hK.out _ _ (by exact box7 (blk_far (blk_far (blk_far (blk_far (blk_far (blk_far (blk_far (hX3) (by (try dsimp only); exact hxg) _) (by (try dsimp only); exact hxg) _) (by (try dsimp only); exact hxg) _) (by (try dsimp only); exact hxg) _) (by (try dsimp only); exact hxg) _) (by (try dsimp only); exact hxg) _) (by (try dsimp only); exact hxg) _)) (fun hHeld => ?_)
            clear hK K
            try simp only [Act.put, List.setIfInBounds_toArray, List.set_cons_zero, List.set_cons_succ]
            have hB4 : ((((((((w3).setCell ⟨g', vs.length * 7, none⟩ (.int .u8 x.f0)).setCell ⟨g', vs.length * 7 + 1, none⟩ (.string x.f1)).setCell ⟨g', vs.length * 7 + 2, none⟩ (.bool x.f2.f0)).setCell ⟨g', vs.length * 7 + 3, none⟩ (.string x.f2.f1)).setCell ⟨g', vs.length * 7 + 4, none⟩ (.slice At x.f2.f2.length ct)).setCell ⟨g', vs.length * 7 + 5, none⟩ (.int .i64 x.f3)).setCell ⟨g', vs.length * 7 + 6, none⟩ (.slice Bt x.f4.length dt)).heap[g]? = some (.cells #[.slice RA vs.length rc, .slice RB ts.length rd] 126 (0, 0)) := blk_far (blk_far (blk_far (blk_far (blk_far (blk_far (blk_far (hB3) (by (try dsimp only); exact hgg) _) (by (try dsimp only); exact hgg) _) (by (try dsimp only); exact hgg) _) (by (try dsimp only); exact hgg) _) (by (try dsimp only); exact hgg) _) (by (try dsimp only); exact hgg) _) (by (try dsimp only); exact hgg) _
            have wc0 := (blk_cell hB4 0).trans rfl
            have rc0 := blk_frozen hB4 0
            refine wpAnyH_ready (rs := [13]) (by kernel_rfl) (by simp) ?_
            refine AllReadyH.cons (o := ntO13) rfl (fun K hK => ?_) AllReadyH.nil
            dsimp only [ntO13]
            go_simp
            refine hK.out _ _ (by exact box7 (blk_far (blk_far (blk_far (blk_far (blk_far (blk_far (blk_far (blk_far (hX3) (by (try dsimp only); exact hxg) _) (by (try dsimp only); exact hxg) _) (by (try dsimp only); exact hxg) _) (by (try dsimp only); exact hxg) _) (by (try dsimp only); exact hxg) _) (by (try dsimp only); exact hxg) _) (by (try dsimp only); exact hxg) _) (by (try dsimp only); exact hxg2) _)) (fun hHeld => ?_)
            clear hK K
            try simp only [Act.put, List.setIfInBounds_toArray, List.set_cons_zero, List.set_cons_succ]
            clear hB4 wc0 rc0
            have hW5 := Nt_wa (ut := .slice At x.f2.f2.length ct) (us := .slice Bt x.f4.length dt) (x := x) hil hgb (blk_lt hBc) hBc hvb (by have := hbc.size; have := HBS1.out; omega) hown3 hgr hat
            have hP := Nt_push (ts := ts) hgb HBS1.out HBW1.out hrow hel HU1.out hbc (hT5.mono (fun k hk => Nat.le_trans HLT.out hk)) (hM5.mono (fun k hk => Nat.le_trans HLT.out hk)) hat hW5
            have HS2 := Aside0.mk hP.1
            have HK2 := Aside0.mk (HK1.out.trans hP.2)
            have hX9 := hP.2.blk HBX1.out (by omega) (hnr _ hbW1)
            obtain ⟨x0, x1, x2, x3, x4, x5, x6⟩ := box7 hX9
            clear hW5 hP hB3 hX3 p0 p1 p2 p3 p4 p5 p6 q0 q1 q2 q3 q4 q5 q6 hown3 hgr hat hBc hXc hT5 hM5 hrow hel hX9 hnews
            refine wpAnyH_done (by kernel_rfl) ?_ _
            go_wp2_with fail
            go_meet
            case rel => exact ⟨HS2, HK2, x0, x1, x2, x3, x4, x5, x6⟩
          · have wc0 := (blk_cell hB3 0).trans rfl
            have rc0 := blk_frozen hB3 0
            dsimp only [ntO13]
            go_simp
            refine hK.out _ _ (by exact box7 (blk_far hX3 (by (try dsimp only); exact hxg2) _)) (fun hHeld => ?_)
            clear hK K
            try simp only [Act.put, List.setIfInBounds_toArray, List.set_cons_zero, List.set_cons_succ]
            have hown4 := own_move (w1 := w3.setCell ⟨g, 0, none⟩ (.slice (some ⟨g', 0, none⟩) (vs.length + 1) cap)) hown3 (fun k hk => Below.heap_setCell _ _ _ k (own_slice_ne hk hgg))
            clear p0 p1 p2 p3 p4 p5 p6 q0 q1 q2 q3 q4 q5 q6 wc0 rc0
            obtain ⟨p0, p1, p2, p3, p4, p5, p6, q0, q1, q2, q3, q4, q5, q6⟩ := own_cells7 hil hown4
            refine wpAnyH_ready (rs := [10]) (by kernel_rfl) (by simp) ?_
            refine AllReadyH.cons (o := ntO10) rfl (fun K hK => ?_) AllReadyH.nil
            dsimp only [ntO10]
            go_simp
            refine hK.out _ _ (by exact box7 (blk_far (blk_far (blk_far (blk_far (blk_far (blk_far (blk_far ((blk_far hX3 (by (try dsimp only); exact hxg2) _)) (by (try dsimp only); exact hxg) _) (by (try dsimp only); exact hxg) _) (by (try dsimp only); exact hxg) _) (by (try dsimp only); exact hxg) _) (by (try dsimp only); exact hxg) _) (by (try dsimp only); exact hxg) _) (by (try dsimp only); exact hxg) _)) (fun hHeld => ?_)
            clear hK K
            try simp only [Act.put, List.setIfInBounds_toArray, List.set_cons_zero, List.set_cons_succ]
            clear hown4
            have hW5 := Nt_wb (ut := .slice At x.f2.f2.length ct) (us := .slice Bt x.f4.length dt) (x := x) hil hgb (blk_lt hBc) hBc hvb (by have := hbc.size; have := HBS1.out; omega) hown3 hgr hat
            have hP := Nt_push (ts := ts) hgb HBS1.out HBW1.out hrow hel HU1.out hbc (hT5.mono (fun k hk => Nat.le_trans HLT.out hk)) (hM5.mono (fun k hk => Nat.le_trans HLT.out hk)) hat hW5
            have HS2 := Aside0.mk hP.1
            have HK2 := Aside0.mk (HK1.out.trans hP.2)
            have hX9 := hP.2.blk HBX1.out (by omega) (hnr _ hbW1)
            obtain ⟨x0, x1, x2, x3, x4, x5, x6⟩ := box7 hX9
            clear hW5 hP hB3 hX3 p0 p1 p2 p3 p4 p5 p6 q0 q1 q2 q3 q4 q5 q6 hown3 hgr hat hBc hXc hT5 hM5 hrow hel hX9 hnews
            refine wpAnyH_done (by kernel_rfl) ?_ _
            go_wp2_with fail
            go_meet
            case rel => exact ⟨HS2, HK2, x0, x1, x2, x3, x4, x5, x6⟩
      · dsimp only [ntO5]
        go_simp
        go_wp2_with (go_at_call 28; (with_reducible refine (et _ hbc).mono ?_); rintro e w5 ⟨r5, rfl, hO5, hb5⟩; obtain ⟨vt, vs5, hr5, hT5, hM5⟩ := hO5; subst hr5; obtain ⟨At, ct, hvt, _, _⟩ := hT5.reads; subst hvt; obtain ⟨Bt, dt, hvs, _, _⟩ := hM5.reads; subst hvs)
        have HLT := Aside0.mk hbc.size
        replace hBc := blk_below hBc hb5
        replace hXc := blk_below hXc hb5
        replace hbc := below_step hbc hb5
        refine hK.out _ _ (by exact box7 hXc) (fun hHeld => ?_)
        clear hK K
        try simp only [Act.put, List.setIfInBounds_toArray, List.set_cons_zero, List.set_cons_succ]
        refine wpAnyH_ready (rs := [3, 7]) (by kernel_rfl) (by simp) ?_
        refine AllReadyH.cons (o := ntO3) rfl (fun K hK => ?_) (AllReadyH.cons (o := ntO7) rfl (fun K hK => ?_) AllReadyH.nil)
        · dsimp only [ntO3]
          have wc0 := (blk_cell hBc 0).trans rfl
          go_simp
          refine hK.out _ _ (by exact box7 hXc) (fun hHeld => ?_)
          clear hK K
          try simp only [Act.put, List.setIfInBounds_toArray, List.set_cons_zero, List.set_cons_succ]
          refine wpAnyH_take (i := 6) (oi := ntO6) (v := ?_) rfl (by kernel_rfl) (by kernel_rfl) (by kernel_rfl) (fun _ _ _ h => h) (Or.inl ⟨by rfl, ?_⟩) (by assumption) ?_
          rotate_left
          · intro w' hSw; (try dsimp only at hSw); (try dsimp only [ntO6]); go_simp; try with_reducible rfl
          try simp only [ntO6]
          try simp only [Act.put, List.setIfInBounds_toArray, List.set_cons_zero, List.set_cons_succ]
          refine wpAnyH_ready (rs := [7]) (by kernel_rfl) (by simp) ?_
          refine AllReadyH.cons (o := ntO7) rfl (fun K hK => ?_) AllReadyH.nil
          dsimp only [ntO7]
          go_simp
          have hbn := below_one (w := w5) (.cells #[.int .u8 0, .string ⟨#[]⟩, .bool false, .string ⟨#[]⟩, .slice none 0 0, .int .i64 0, .slice none 0 0] 27)
          replace hBc := blk_below hBc hbn
          replace hXc := blk_below hXc hbn
          replace hbc := below_step hbc hbn
          have hnews := blk_new w5 (.cells #[.int .u8 0, .string ⟨#[]⟩, .bool false, .string ⟨#[]⟩, .slice none 0 0, .int .i64 0, .slice none 0 0] 27)
          replace hT5 := hT5.later hbn
          replace hM5 := hM5.later hbn
          refine hK.out _ _ (by exact box7 hXc) (fun hHeld => ?_)
          clear hK K
          try simp only [Act.put, List.setIfInBounds_toArray, List.set_cons_zero, List.set_cons_succ]
          obtain ⟨i0, hi0, hz0, hz1, hz2⟩ := info_parts info27
          obtain ⟨inner, tsf, ssf, hrow, hel⟩ := id HV1.out
          have hlow : ∀ k, W1.heap.size ≤ k → w.heap.size ≤ k := fun k hk => Nat.le_trans (Nat.le_of_lt (blk_lt HBX1.out)) hk
          refine wpAnyH_ready (rs := [8]) (by kernel_rfl) (by simp) ?_
          refine AllReadyH.cons (o := ntO8) rfl (fun K hK => ?_) AllReadyH.nil
          refine step_append_lies _ rfl _ _ 25 rfl base 27 i0 _ 7 104 Try.underlying25 hi0 hz0 hz1 hz2 rfl (by decide) (.slice RA vs.length rc) vs.length inner rfl (own_later hrow hbc) ⟨w5.heap.size, 0, none⟩ 1 1 [.int .u8 0, .string ⟨#[]⟩, .bool false, .string ⟨#[]⟩, .slice none 0 0, .int .i64 0, .slice none 0 0] rfl rfl (World.news_of_block hnews) ?hone (by decide) ?h63 ?hby ?hbase _ rfl ?_
          case hone => simp [Value.oneCell']
          case h63 => have := HVL.out; unfold maxLen; omega
          case hby => have := HVL.out; omega
          case hbase => have := hbc.size; have := HBS1.out; omega
          intro g' cap w3 hown3 hgr hat hg3
          have hvb : ∀ k, (Value.slice RA vs.length rc).ownBlock = some k → base ≤ k := fun k hk => own_base hrow k hk
          have hvx : some w.heap.size ≠ (Value.slice RA vs.length rc).ownBlock := fun e => hnr _ hbW1 ⟨_, _, HBW1.out, .inl e.symm⟩
          have hB3 := (hgr.block g (blk_lt hBc) (fun e => by have := hvb g e.symm; omega)).trans hBc
          have hX3 := (hgr.block w.heap.size (blk_lt hXc) hvx).trans hXc
          have hil : inner.length = vs.length * 7 := hrow.1
          have hl1 : (vs.length : Int) < (vs.length : Int) + 1 := by omega
          obtain ⟨p0, p1, p2, p3, p4, p5, p6, q0, q1, q2, q3, q4, q5, q6⟩ := own_cells7 hil hown3
          refine hK.out _ _ (by exact box7 hX3) (fun hHeld => ?_)
          clear hK K
          try simp only [Act.put, List.setIfInBounds_toArray, List.set_cons_zero, List.set_cons_succ]
          refine wpAnyH_take (i := 9) (oi := ntO9) (v := ?_) rfl (by kernel_rfl) (by kernel_rfl) (by kernel_rfl) (fun _ _ _ h => h) (Or.inl ⟨by rfl, ?_⟩) (by assumption) ?_
          rotate_left
          · intro w' hSw; (try dsimp only at hSw); (try dsimp only [ntO9]); go_simp; try with_reducible rfl
          try simp only [ntO9]
          try simp only [Act.put, List.setIfInBounds_toArray, List.set_cons_zero, List.set_cons_succ]
          refine wpAnyH_take (i := 11) (oi := ntO11) (v := ?_) rfl (by kernel_rfl) (by kernel_rfl) (by kernel_rfl) (fun _ _ _ h => h) (Or.inl ⟨by rfl, ?_⟩) (by assumption) ?_
          rotate_left
          · intro w' hSw; (try dsimp only at hSw); (try dsimp only [ntO11]); go_simp; try with_reducible rfl
          try simp only [ntO11]
          try simp only [Act.put, List.setIfInBounds_toArray, List.set_cons_zero, List.set_cons_succ]
          refine wpAnyH_take (i := 12) (oi := ntO12) (v := ?_) rfl (by kernel_rfl) (by kernel_rfl) (by kernel_rfl) (fun _ _ _ h => h) (Or.inl ⟨by rfl, ?_⟩) (by assumption) ?_
          rotate_left
          · intro w' hSw; (try dsimp only at hSw); (try dsimp only [ntO12]); go_simp; try with_reducible rfl
          try simp only [ntO12]
          try simp only [Act.put, List.setIfInBounds_toArray, List.set_cons_zero, List.set_cons_succ]
          have hgg : g ≠ g' := fun e => by
            rcases hat with h | h
            · have := hvb _ h; omega
            · have := blk_lt hBc; omega
          have hxg : w.heap.size ≠ g' := fun e => by
            rcases hat with h | h
            · exact hvx (by rw [e, h])
            · have := blk_lt hXc; omega
          have hxg2 : w.heap.size ≠ g := by omega
          refine wpAnyH_ready (rs := [10, 13]) (by kernel_rfl) (by simp) ?_
          refine AllReadyH.cons (o := ntO10) rfl (fun K hK => ?_) (AllReadyH.cons (o := ntO13) rfl (fun K hK => ?_) AllReadyH.nil)
          · dsimp only [ntO10]
            go_simp
            refine hK.out _ _ (by exact box7 (blk_far (blk_far (blk_far (blk_far (blk_far (blk_far (blk_far (hX3) (by (try dsimp only); exact hxg) _) (by (try dsimp only); exact hxg) _) (by (try dsimp only); exact hxg) _) (by (try dsimp only); exact hxg) _) (by (try dsimp only); exact hxg) _) (by (try dsimp only); exact hxg) _) (by (try dsimp only); exact hxg) _)) (fun hHeld => ?_)
            clear hK K
            try simp only [Act.put, List.setIfInBounds_toArray, List.set_cons_zero, List.set_cons_succ]
            have hB4 : ((((((((w3).setCell ⟨g', vs.length * 7, none⟩ (.int .u8 x.f0)).setCell ⟨g', vs.length * 7 + 1, none⟩ (.string x.f1)).setCell ⟨g', vs.length * 7 + 2, none⟩ (.bool x.f2.f0)).setCell ⟨g', vs.length * 7 + 3, none⟩ (.string x.f2.f1)).setCell ⟨g', vs.length * 7 + 4, none⟩ (.slice At x.f2.f2.length ct)).setCell ⟨g', vs.length * 7 + 5, none⟩ (.int .i64 x.f3)).setCell ⟨g', vs.length * 7 + 6, none⟩ (.slice Bt x.f4.length dt)).heap[g]? = some (.cells #[.slice RA vs.length rc, .slice RB ts.length rd] 126 (0, 0)) := blk_far (blk_far (blk_far (blk_far (blk_far (blk_far (blk_far (hB3) (by (try dsimp only); exact hgg) _) (by (try dsimp only); exact hgg) _) (by (try dsimp only); exact hgg) _) (by (try dsimp only); exact hgg) _) (by (try dsimp only); exact hgg) _) (by (try dsimp only); exact hgg) _) (by (try dsimp only); exact hgg) _
            have wc0 := (blk_cell hB4 0).trans rfl
            have rc0 := blk_frozen hB4 0
            refine wpAnyH_ready (rs := [13]) (by kernel_rfl) (by simp) ?_
            refine AllReadyH.cons (o := ntO13) rfl (fun K hK => ?_) AllReadyH.nil
            dsimp only [ntO13]
            go_simp
            refine hK.out _ _ (by exact box7 (blk_far (blk_far (blk_far (blk_far (blk_far (blk_far (blk_far (blk_far (hX3) (by (try dsimp only); exact hxg) _) (by (try dsimp only); exact hxg) _) (by (try dsimp only); exact hxg) _) (by (try dsimp only); exact hxg) _) (by (try dsimp only); exact hxg) _) (by (try dsimp only); exact hxg) _) (by (try dsimp only); exact hxg) _) (by (try dsimp only); exact hxg2) _)) (fun hHeld => ?_)
            clear hK K
            try simp only [Act.put, List.setIfInBounds_toArray, List.set_cons_zero, List.set_cons_succ]
            clear hB4 wc0 rc0
            have hW5 := Nt_wa (ut := .slice At x.f2.f2.length ct) (us := .slice Bt x.f4.length dt) (x := x) hil hgb (blk_lt hBc) hBc hvb (by have := hbc.size; have := HBS1.out; omega) hown3 hgr hat
            have hP := Nt_push (ts := ts) hgb HBS1.out HBW1.out hrow hel HU1.out hbc (hT5.mono (fun k hk => Nat.le_trans HLT.out hk)) (hM5.mono (fun k hk => Nat.le_trans HLT.out hk)) hat hW5
            have HS2 := Aside0.mk hP.1
            have HK2 := Aside0.mk (HK1.out.trans hP.2)
            have hX9 := hP.2.blk HBX1.out (by omega) (hnr _ hbW1)
            obtain ⟨x0, x1, x2, x3, x4, x5, x6⟩ := box7 hX9
            clear hW5 hP hB3 hX3 p0 p1 p2 p3 p4 p5 p6 q0 q1 q2 q3 q4 q5 q6 hown3 hgr hat hBc hXc hT5 hM5 hrow hel hX9 hnews
            refine wpAnyH_done (by kernel_rfl) ?_ _
            go_wp2_with fail
            go_meet
            case rel => exact ⟨HS2, HK2, x0, x1, x2, x3, x4, x5, x6⟩
          · have wc0 := (blk_cell hB3 0).trans rfl
            have rc0 := blk_frozen hB3 0
            dsimp only [ntO13]
            go_simp
            refine hK.out _ _ (by exact box7 (blk_far hX3 (by (try dsimp only); exact hxg2) _)) (fun hHeld => ?_)
            clear hK K
            try simp only [Act.put, List.setIfInBounds_toArray, List.set_cons_zero, List.set_cons_succ]
            have hown4 := own_move (w1 := w3.setCell ⟨g, 0, none⟩ (.slice (some ⟨g', 0, none⟩) (vs.length + 1) cap)) hown3 (fun k hk => Below.heap_setCell _ _ _ k (own_slice_ne hk hgg))
            clear p0 p1 p2 p3 p4 p5 p6 q0 q1 q2 q3 q4 q5 q6 wc0 rc0
            obtain ⟨p0, p1, p2, p3, p4, p5, p6, q0, q1, q2, q3, q4, q5, q6⟩ := own_cells7 hil hown4
            refine wpAnyH_ready (rs := [10]) (by kernel_rfl) (by simp) ?_
            refine AllReadyH.cons (o := ntO10) rfl (fun K hK => ?_) AllReadyH.nil
            dsimp only [ntO10]
            go_simp
            refine hK.out _ _ (by exact box7 (blk_far (blk_far (blk_far (blk_far (blk_far (blk_far (blk_far ((blk_far hX3 (by (try dsimp only); exact hxg2) _)) (by (try dsimp only); exact hxg) _) (by (try dsimp only); exact hxg) _) (by (try dsimp only); exact hxg) _) (by (try dsimp only); exact hxg) _) (by (try dsimp only); exact hxg) _) (by (try dsimp only); exact hxg) _) (by (try dsimp only); exact hxg) _)) (fun hHeld => ?_)
            clear hK K
            try simp only [Act.put, List.setIfInBounds_toArray, List.set_cons_zero, List.set_cons_succ]
            clear hown4
            have hW5 := Nt_wb (ut := .slice At x.f2.f2.length ct) (us := .slice Bt x.f4.length dt) (x := x) hil hgb (blk_lt hBc) hBc hvb (by have := hbc.size; have := HBS1.out; omega) hown3 hgr hat
            have hP := Nt_push (ts := ts) hgb HBS1.out HBW1.out hrow hel HU1.out hbc (hT5.mono (fun k hk => Nat.le_trans HLT.out hk)) (hM5.mono (fun k hk => Nat.le_trans HLT.out hk)) hat hW5
            have HS2 := Aside0.mk hP.1
            have HK2 := Aside0.mk (HK1.out.trans hP.2)
            have hX9 := hP.2.blk HBX1.out (by omega) (hnr _ hbW1)
            obtain ⟨x0, x1, x2, x3, x4, x5, x6⟩ := box7 hX9
            clear hW5 hP hB3 hX3 p0 p1 p2 p3 p4 p5 p6 q0 q1 q2 q3 q4 q5 q6 hown3 hgr hat hBc hXc hT5 hM5 hrow hel hX9 hnews
            refine wpAnyH_done (by kernel_rfl) ?_ _
            go_wp2_with fail
            go_meet
            case rel => exact ⟨HS2, HK2, x0, x1, x2, x3, x4, x5, x6⟩
        · dsimp only [ntO7]
          go_simp
          have hbn := below_one (w := w5) (.cells #[.int .u8 0, .string ⟨#[]⟩, .bool false, .string ⟨#[]⟩, .slice none 0 0, .int .i64 0, .slice none 0 0] 27)
          replace hBc := blk_below hBc hbn
          replace hXc := blk_below hXc hbn
          replace hbc := below_step hbc hbn
          have hnews := blk_new w5 (.cells #[.int .u8 0, .string ⟨#[]⟩, .bool false, .string ⟨#[]⟩, .slice none 0 0, .int .i64 0, .slice none 0 0] 27)
          replace hT5 := hT5.later hbn
          replace hM5 := hM5.later hbn
          refine hK.out _ _ (by exact box7 hXc) (fun hHeld => ?_)
          clear hK K
          try simp only [Act.put, List.setIfInBounds_toArray, List.set_cons_zero, List.set_cons_succ]
          refine wpAnyH_ready (rs := [3]) (by kernel_rfl) (by simp) ?_
          refine AllReadyH.cons (o := ntO3) rfl (fun K hK => ?_) AllReadyH.nil
          dsimp only [ntO3]
          have wc0 := (blk_cell hBc 0).trans rfl
          go_simp
          refine hK.out _ _ (by exact box7 hXc) (fun hHeld => ?_)
          clear hK K
          try simp only [Act.put, List.setIfInBounds_toArray, List.set_cons_zero, List.set_cons_succ]
          refine wpAnyH_take (i := 6) (oi := ntO6) (v := ?_) rfl (by kernel_rfl) (by kernel_rfl) (by kernel_rfl) (fun _ _ _ h => h) (Or.inl ⟨by rfl, ?_⟩) (by assumption) ?_
          rotate_left
          · intro w' hSw; (try dsimp only at hSw); (try dsimp only [ntO6]); go_simp; try with_reducible rfl
          try simp only [ntO6]
          try simp only [Act.put, List.setIfInBounds_toArray, List.set_cons_zero, List.set_cons_succ]
          obtain ⟨i0, hi0, hz0, hz1, hz2⟩ := info_parts info27
          obtain ⟨inner, tsf, ssf, hrow, hel⟩ := id HV1.out
          have hlow : ∀ k, W1.heap.size ≤ k → w.heap.size ≤ k := fun k hk => Nat.le_trans (Nat.le_of_lt (blk_lt HBX1.out)) hk
          refine wpAnyH_ready (rs := [8]) (by kernel_rfl) (by simp) ?_
          refine AllReadyH.cons (o := ntO8) rfl (fun K hK => ?_) AllReadyH.nil
          refine step_append_lies _ rfl _ _ 25 rfl base 27 i0 _ 7 104 Try.underlying25 hi0 hz0 hz1 hz2 rfl (by decide) (.slice RA vs.length rc) vs.length inner rfl (own_later hrow hbc) ⟨w5.heap.size, 0, none⟩ 1 1 [.int .u8 0, .string ⟨#[]⟩, .bool false, .string ⟨#[]⟩, .slice none 0 0, .int .i64 0, .slice none 0 0] rfl rfl (World.news_of_block hnews) ?hone (by decide) ?h63 ?hby ?hbase _ rfl ?_
          case hone => simp [Value.oneCell']
          case h63 => have := HVL.out; unfold maxLen; omega
          case hby => have := HVL.out; omega
          case hbase => have := hbc.size; have := HBS1.out; omega
          intro g' cap w3 hown3 hgr hat hg3
          have hvb : ∀ k, (Value.slice RA vs.length rc).ownBlock = some k → base ≤ k := fun k hk => own_base hrow k hk
          have hvx : some w.heap.size ≠ (Value.slice RA vs.length rc).ownBlock := fun e => hnr _ hbW1 ⟨_, _, HBW1.out, .inl e.symm⟩
          have hB3 := (hgr.block g (blk_lt hBc) (fun e => by have := hvb g e.symm; omega)).trans hBc
          have hX3 := (hgr.block w.heap.size (blk_lt hXc) hvx).trans hXc
          have hil : inner.length = vs.length * 7 := hrow.1
          have hl1 : (vs.length : Int) < (vs.length : Int) + 1 := by omega
          obtain ⟨p0, p1, p2, p3, p4, p5, p6, q0, q1, q2, q3, q4, q5, q6⟩ := own_cells7 hil hown3
          refine hK.out _ _ (by exact box7 hX3) (fun hHeld => ?_)
          clear hK K
          try simp only [Act.put, List.setIfInBounds_toArray, List.set_cons_zero, List.set_cons_succ]
          refine wpAnyH_take (i := 9) (oi := ntO9) (v := ?_) rfl (by kernel_rfl) (by kernel_rfl) (by kernel_rfl) (fun _ _ _ h => h) (Or.inl ⟨by rfl, ?_⟩) (by assumption) ?_
          rotate_left
          · intro w' hSw; (try dsimp only at hSw); (try dsimp only [ntO9]); go_simp; try with_reducible rfl
          try simp only [ntO9]
          try simp only [Act.put, List.setIfInBounds_toArray, List.set_cons_zero, List.set_cons_succ]
          refine wpAnyH_take (i := 11) (oi := ntO11) (v := ?_) rfl (by kernel_rfl) (by kernel_rfl) (by kernel_rfl) (fun _ _ _ h => h) (Or.inl ⟨by rfl, ?_⟩) (by assumption) ?_
          rotate_left
          · intro w' hSw; (try dsimp only at hSw); (try dsimp only [ntO11]); go_simp; try with_reducible rfl
          try simp only [ntO11]
          try simp only [Act.put, List.setIfInBounds_toArray, List.set_cons_zero, List.set_cons_succ]
          refine wpAnyH_take (i := 12) (oi := ntO12) (v := ?_) rfl (by kernel_rfl) (by kernel_rfl) (by kernel_rfl) (fun _ _ _ h => h) (Or.inl ⟨by rfl, ?_⟩) (by assumption) ?_
          rotate_left
          · intro w' hSw; (try dsimp only at hSw); (try dsimp only [ntO12]); go_simp; try with_reducible rfl
          try simp only [ntO12]
          try simp only [Act.put, List.setIfInBounds_toArray, List.set_cons_zero, List.set_cons_succ]
          have hgg : g ≠ g' := fun e => by
            rcases hat with h | h
            · have := hvb _ h; omega
            · have := blk_lt hBc; omega
          have hxg : w.heap.size ≠ g' := fun e => by
            rcases hat with h | h
            · exact hvx (by rw [e, h])
            · have := blk_lt hXc; omega
          have hxg2 : w.heap.size ≠ g := by omega
          refine wpAnyH_ready (rs := [10, 13]) (by kernel_rfl) (by simp) ?_
          refine AllReadyH.cons (o := ntO10) rfl (fun K hK => ?_) (AllReadyH.cons (o := ntO13) rfl (fun K hK => ?_) AllReadyH.nil)
          · dsimp only [ntO10]
            go_simp
            refine hK.out _ _ (by exact box7 (blk_far (blk_far (blk_far (blk_far (blk_far (blk_far (blk_far (hX3) (by (try dsimp only); exact hxg) _) (by (try dsimp only); exact hxg) _) (by (try dsimp only); exact hxg) _) (by (try dsimp only); exact hxg) _) (by (try dsimp only); exact hxg) _) (by (try dsimp only); exact hxg) _) (by (try dsimp only); exact hxg) _)) (fun hHeld => ?_)
            clear hK K
            try simp only [Act.put, List.setIfInBounds_toArray, List.set_cons_zero, List.set_cons_succ]
            have hB4 : ((((((((w3).setCell ⟨g', vs.length * 7, none⟩ (.int .u8 x.f0)).setCell ⟨g', vs.length * 7 + 1, none⟩ (.string x.f1)).setCell ⟨g', vs.length * 7 + 2, none⟩ (.bool x.f2.f0)).setCell ⟨g', vs.length * 7 + 3, none⟩ (.string x.f2.f1)).setCell ⟨g', vs.length * 7 + 4, none⟩ (.slice At x.f2.f2.length ct)).setCell ⟨g', vs.length * 7 + 5, none⟩ (.int .i64 x.f3)).setCell ⟨g', vs.length * 7 + 6, none⟩ (.slice Bt x.f4.length dt)).heap[g]? = some (.cells #[.slice RA vs.length rc, .slice RB ts.length rd] 126 (0, 0)) := blk_far (blk_far (blk_far (blk_far (blk_far (blk_far (blk_far (hB3) (by (try dsimp only); exact hgg) _) (by (try dsimp only); exact hgg) _) (by (try dsimp only); exact hgg) _) (by (try dsimp only); exact hgg) _) (by (try dsimp only); exact hgg) _) (by (try dsimp only); exact hgg) _) (by (try dsimp only); exact hgg) _
            have wc0 := (blk_cell hB4 0).trans rfl
            have rc0 := blk_frozen hB4 0
            refine wpAnyH_ready (rs := [13]) (by kernel_rfl) (by simp) ?_
            refine AllReadyH.cons (o := ntO13) rfl (fun K hK => ?_) AllReadyH.nil
            dsimp only [ntO13]
            go_simp
            refine hK.out _ _ (by exact box7 (blk_far (blk_far (blk_far (blk_far (blk_far (blk_far (blk_far (blk_far (hX3) (by (try dsimp only); exact hxg) _) (by (try dsimp only); exact hxg) _) (by (try dsimp only); exact hxg) _) (by (try dsimp only); exact hxg) _) (by (try dsimp only); exact hxg) _) (by (try dsimp only); exact hxg) _) (by (try dsimp only); exact hxg) _) (by (try dsimp only); exact hxg2) _)) (fun hHeld => ?_)
            clear hK K
            try simp only [Act.put, List.setIfInBounds_toArray, List.set_cons_zero, List.set_cons_succ]
            clear hB4 wc0 rc0
            have hW5 := Nt_wa (ut := .slice At x.f2.f2.length ct) (us := .slice Bt x.f4.length dt) (x := x) hil hgb (blk_lt hBc) hBc hvb (by have := hbc.size; have := HBS1.out; omega) hown3 hgr hat
            have hP := Nt_push (ts := ts) hgb HBS1.out HBW1.out hrow hel HU1.out hbc (hT5.mono (fun k hk => Nat.le_trans HLT.out hk)) (hM5.mono (fun k hk => Nat.le_trans HLT.out hk)) hat hW5
            have HS2 := Aside0.mk hP.1
            have HK2 := Aside0.mk (HK1.out.trans hP.2)
            have hX9 := hP.2.blk HBX1.out (by omega) (hnr _ hbW1)
            obtain ⟨x0, x1, x2, x3, x4, x5, x6⟩ := box7 hX9
            clear hW5 hP hB3 hX3 p0 p1 p2 p3 p4 p5 p6 q0 q1 q2 q3 q4 q5 q6 hown3 hgr hat hBc hXc hT5 hM5 hrow hel hX9 hnews
            refine wpAnyH_done (by kernel_rfl) ?_ _
            go_wp2_with fail
            go_meet
            case rel => exact ⟨HS2, HK2, x0, x1, x2, x3, x4, x5, x6⟩
          · have wc0 := (blk_cell hB3 0).trans rfl
            have rc0 := blk_frozen hB3 0
            dsimp only [ntO13]
            go_simp
            refine hK.out _ _ (by exact box7 (blk_far hX3 (by (try dsimp only); exact hxg2) _)) (fun hHeld => ?_)
            clear hK K
            try simp only [Act.put, List.setIfInBounds_toArray, List.set_cons_zero, List.set_cons_succ]
            have hown4 := own_move (w1 := w3.setCell ⟨g, 0, none⟩ (.slice (some ⟨g', 0, none⟩) (vs.length + 1) cap)) hown3 (fun k hk => Below.heap_setCell _ _ _ k (own_slice_ne hk hgg))
            clear p0 p1 p2 p3 p4 p5 p6 q0 q1 q2 q3 q4 q5 q6 wc0 rc0
            obtain ⟨p0, p1, p2, p3, p4, p5, p6, q0, q1, q2, q3, q4, q5, q6⟩ := own_cells7 hil hown4
            refine wpAnyH_ready (rs := [10]) (by kernel_rfl) (by simp) ?_
            refine AllReadyH.cons (o := ntO10) rfl (fun K hK => ?_) AllReadyH.nil
            dsimp only [ntO10]
            go_simp
            refine hK.out _ _ (by exact box7 (blk_far (blk_far (blk_far (blk_far (blk_far (blk_far (blk_far ((blk_far hX3 (by (try dsimp only); exact hxg2) _)) (by (try dsimp only); exact hxg) _) (by (try dsimp only); exact hxg) _) (by (try dsimp only); exact hxg) _) (by (try dsimp only); exact hxg) _) (by (try dsimp only); exact hxg) _) (by (try dsimp only); exact hxg) _) (by (try dsimp only); exact hxg) _)) (fun hHeld => ?_)
            clear hK K
            try simp only [Act.put, List.setIfInBounds_toArray, List.set_cons_zero, List.set_cons_succ]
            clear hown4
            have hW5 := Nt_wb (ut := .slice At x.f2.f2.length ct) (us := .slice Bt x.f4.length dt) (x := x) hil hgb (blk_lt hBc) hBc hvb (by have := hbc.size; have := HBS1.out; omega) hown3 hgr hat
            have hP := Nt_push (ts := ts) hgb HBS1.out HBW1.out hrow hel HU1.out hbc (hT5.mono (fun k hk => Nat.le_trans HLT.out hk)) (hM5.mono (fun k hk => Nat.le_trans HLT.out hk)) hat hW5
            have HS2 := Aside0.mk hP.1
            have HK2 := Aside0.mk (HK1.out.trans hP.2)
            have hX9 := hP.2.blk HBX1.out (by omega) (hnr _ hbW1)
            obtain ⟨x0, x1, x2, x3, x4, x5, x6⟩ := box7 hX9
            clear hW5 hP hB3 hX3 p0 p1 p2 p3 p4 p5 p6 q0 q1 q2 q3 q4 q5 q6 hown3 hgr hat hBc hXc hT5 hM5 hrow hel hX9 hnews
            refine wpAnyH_done (by kernel_rfl) ?_ _
            go_wp2_with fail
            go_meet
            case rel => exact ⟨HS2, HK2, x0, x1, x2, x3, x4, x5, x6⟩
      · dsimp only [ntO7]
        go_simp
        replace hbc := below_drew1 (below_one (w := W1) (.cells #[.int .u8 0, .string ⟨#[]⟩, .bool false, .string ⟨#[]⟩, .slice none 0 0, .int .i64 0, .slice none 0 0] 27))
        replace hBc := blk_below HBW1.out hbc
        replace hXc := blk_below HBX1.out hbc
        have hnews := blk_below (blk_new W1 (.cells #[.int .u8 0, .string ⟨#[]⟩, .bool false, .string ⟨#[]⟩, .slice none 0 0, .int .i64 0, .slice none 0 0] 27)) (below_drew1 (Below.refl _ _))
        refine hK.out _ _ (by exact box7 hXc) (fun hHeld => ?_)
        clear hK K
        try simp only [Act.put, List.setIfInBounds_toArray, List.set_cons_zero, List.set_cons_succ]
        refine wpAnyH_ready (rs := [3, 5]) (by kernel_rfl) (by simp) ?_
        refine AllReadyH.cons (o := ntO3) rfl (fun K hK => ?_) (AllReadyH.cons (o := ntO5) rfl (fun K hK => ?_) AllReadyH.nil)
        · dsimp only [ntO3]
          have wc0 := (blk_cell hBc 0).trans rfl
          go_simp
          refine hK.out _ _ (by exact box7 hXc) (fun hHeld => ?_)
          clear hK K
          try simp only [Act.put, List.setIfInBounds_toArray, List.set_cons_zero, List.set_cons_succ]
          refine wpAnyH_take (i := 6) (oi := ntO6) (v := ?_) rfl (by kernel_rfl) (by kernel_rfl) (by kernel_rfl) (fun _ _ _ h => h) (Or.inl ⟨by rfl, ?_⟩) (by assumption) ?_
          rotate_left
          · intro w' hSw; (try dsimp only at hSw); (try dsimp only [ntO6]); go_simp; try with_reducible rfl
          try simp only [ntO6]
          try simp only [Act.put, List.setIfInBounds_toArray, List.set_cons_zero, List.set_cons_succ]
          refine wpAnyH_ready (rs := [5]) (by kernel_rfl) (by simp) ?_
          refine AllReadyH.cons (o := ntO5) rfl (fun K hK => ?_) AllReadyH.nil
          dsimp only [ntO5]
          go_simp
          go_wp2_with (go_at_call 28; (with_reducible refine (et _ hbc).mono ?_); rintro e w5 ⟨r5, rfl, hO5, hb5⟩; obtain ⟨vt, vs5, hr5, hT5, hM5⟩ := hO5; subst hr5; obtain ⟨At, ct, hvt, _, _⟩ := hT5.reads; subst hvt; obtain ⟨Bt, dt, hvs, _, _⟩ := hM5.reads; subst hvs)
          have HLT := Aside0.mk hbc.size
          replace hBc := blk_below hBc hb5
          replace hXc := blk_below hXc hb5
          have hnews := blk_below hnews hb5
          replace hbc := below_step hbc hb5
          refine hK.out _ _ (by exact box7 hXc) (fun hHeld => ?_)
          clear hK K
          try simp only [Act.put, List.setIfInBounds_toArray, List.set_cons_zero, List.set_cons_succ]
          obtain ⟨i0, hi0, hz0, hz1, hz2⟩ := info_parts info27
          obtain ⟨inner, tsf, ssf, hrow, hel⟩ := id HV1.out
          have hlow : ∀ k, W1.heap.size ≤ k → w.heap.size ≤ k := fun k hk => Nat.le_trans (Nat.le_of_lt (blk_lt HBX1.out)) hk
          refine wpAnyH_ready (rs := [8]) (by kernel_rfl) (by simp) ?_
          refine AllReadyH.cons (o := ntO8) rfl (fun K hK => ?_) AllReadyH.nil
          refine step_append_lies _ rfl _ _ 25 rfl base 27 i0 _ 7 104 Try.underlying25 hi0 hz0 hz1 hz2 rfl (by decide) (.slice RA vs.length rc) vs.length inner rfl (own_later hrow hbc) ⟨W1.heap.size, 0, none⟩ 1 1 [.int .u8 0, .string ⟨#[]⟩, .bool false, .string ⟨#[]⟩, .slice none 0 0, .int .i64 0, .slice none 0 0] rfl rfl (World.news_of_block hnews) ?hone (by decide) ?h63 ?hby ?hbase _ rfl ?_
          case hone => simp [Value.oneCell']
          case h63 => have := HVL.out; unfold maxLen; omega
          case hby => have := HVL.out; omega
          case hbase => have := hbc.size; have := HBS1.out; omega
          intro g' cap w3 hown3 hgr hat hg3
          have hvb : ∀ k, (Value.slice RA vs.length rc).ownBlock = some k → base ≤ k := fun k hk => own_base hrow k hk
          have hvx : some w.heap.size ≠ (Value.slice RA vs.length rc).ownBlock := fun e => hnr _ hbW1 ⟨_, _, HBW1.out, .inl e.symm⟩
          have hB3 := (hgr.block g (blk_lt hBc) (fun e => by have := hvb g e.symm; omega)).trans hBc
          have hX3 := (hgr.block w.heap.size (blk_lt hXc) hvx).trans hXc
          have hil : inner.length = vs.length * 7 := hrow.1
          have hl1 : (vs.length : Int) < (vs.length : Int) + 1 := by omega
          obtain ⟨p0, p1, p2, p3, p4, p5, p6, q0, q1, q2, q3, q4, q5, q6⟩ := own_cells7 hil hown3
          refine hK.out _ _ (by exact box7 hX3) (fun hHeld => ?_)
          clear hK K
          try simp only [Act.put, List.setIfInBounds_toArray, List.set_cons_zero, List.set_cons_succ]
          refine wpAnyH_take (i := 9) (oi := ntO9) (v := ?_) rfl (by kernel_rfl) (by kernel_rfl) (by kernel_rfl) (fun _ _ _ h => h) (Or.inl ⟨by rfl, ?_⟩) (by assumption) ?_
          rotate_left
          · intro w' hSw; (try dsimp only at hSw); (try dsimp only [ntO9]); go_simp; try with_reducible rfl
          try simp only [ntO9]
          try simp only [Act.put, List.setIfInBounds_toArray, List.set_cons_zero, List.set_cons_succ]
          refine wpAnyH_take (i := 11) (oi := ntO11) (v := ?_) rfl (by kernel_rfl) (by kernel_rfl) (by kernel_rfl) (fun _ _ _ h => h) (Or.inl ⟨by rfl, ?_⟩) (by assumption) ?_
          rotate_left
          · intro w' hSw; (try dsimp only at hSw); (try dsimp only [ntO11]); go_simp; try with_reducible rfl
          try simp only [ntO11]
          try simp only [Act.put, List.setIfInBounds_toArray, List.set_cons_zero, List.set_cons_succ]
          refine wpAnyH_take (i := 12) (oi := ntO12) (v := ?_) rfl (by kernel_rfl) (by kernel_rfl) (by kernel_rfl) (fun _ _ _ h => h) (Or.inl ⟨by rfl, ?_⟩) (by assumption) ?_
          rotate_left
          · intro w' hSw; (try dsimp only at hSw); (try dsimp only [ntO12]); go_simp; try with_reducible rfl
          try simp only [ntO12]
          try simp only [Act.put, List.setIfInBounds_toArray, List.set_cons_zero, List.set_cons_succ]
          have hgg : g ≠ g' := fun e => by
            rcases hat with h | h
            · have := hvb _ h; omega
            · have := blk_lt hBc; omega
          have hxg : w.heap.size ≠ g' := fun e => by
            rcases hat with h | h
            · exact hvx (by rw [e, h])
            · have := blk_lt hXc; omega
          have hxg2 : w.heap.size ≠ g := by omega
          refine wpAnyH_ready (rs := [10, 13]) (by kernel_rfl) (by simp) ?_
          refine AllReadyH.cons (o := ntO10) rfl (fun K hK => ?_) (AllReadyH.cons (o := ntO13) rfl (fun K hK => ?_) AllReadyH.nil)
          · dsimp only [ntO10]
            go_simp
            refine hK.out _ _ (by exact box7 (blk_far (blk_far (blk_far (blk_far (blk_far (blk_far (blk_far (hX3) (by (try dsimp only); exact hxg) _) (by (try dsimp only); exact hxg) _) (by (try dsimp only); exact hxg) _) (by (try dsimp only); exact hxg) _) (by (try dsimp only); exact hxg) _) (by (try dsimp only); exact hxg) _) (by (try dsimp only); exact hxg) _)) (fun hHeld => ?_)
            clear hK K
            try simp only [Act.put, List.setIfInBounds_toArray, List.set_cons_zero, List.set_cons_succ]
            have hB4 : ((((((((w3).setCell ⟨g', vs.length * 7, none⟩ (.int .u8 x.f0)).setCell ⟨g', vs.length * 7 + 1, none⟩ (.string x.f1)).setCell ⟨g', vs.length * 7 + 2, none⟩ (.bool x.f2.f0)).setCell ⟨g', vs.length * 7 + 3, none⟩ (.string x.f2.f1)).setCell ⟨g', vs.length * 7 + 4, none⟩ (.slice At x.f2.f2.length ct)).setCell ⟨g', vs.length * 7 + 5, none⟩ (.int .i64 x.f3)).setCell ⟨g', vs.length * 7 + 6, none⟩ (.slice Bt x.f4.length dt)).heap[g]? = some (.cells #[.slice RA vs.length rc, .slice RB ts.length rd] 126 (0, 0)) := blk_far (blk_far (blk_far (blk_far (blk_far (blk_far (blk_far (hB3) (by (try dsimp only); exact hgg) _) (by (try dsimp only); exact hgg) _) (by (try dsimp only); exact hgg) _) (by (try dsimp only); exact hgg) _) (by (try dsimp only); exact hgg) _) (by (try dsimp only); exact hgg) _) (by (try dsimp only); exact hgg) _
            have wc0 := (blk_cell hB4 0).trans rfl
            have rc0 := blk_frozen hB4 0
            refine wpAnyH_ready (rs := [13]) (by kernel_rfl) (by simp) ?_
            refine AllReadyH.cons (o := ntO13) rfl (fun K hK => ?_) AllReadyH.nil
            dsimp only [ntO13]
            go_simp
            refine hK.out _ _ (by exact box7 (blk_far (blk_far (blk_far (blk_far (blk_far (blk_far (blk_far (blk_far (hX3) (by (try dsimp only); exact hxg) _) (by (try dsimp only); exact hxg) _) (by (try dsimp only); exact hxg) _) (by (try dsimp only); exact hxg) _) (by (try dsimp only); exact hxg) _) (by (try dsimp only); exact hxg) _) (by (try dsimp only); exact hxg) _) (by (try dsimp only); exact hxg2) _)) (fun hHeld => ?_)
            clear hK K
            try simp only [Act.put, List.setIfInBounds_toArray, List.set_cons_zero, List.set_cons_succ]
            clear hB4 wc0 rc0
            have hW5 := Nt_wa (ut := .slice At x.f2.f2.length ct) (us := .slice Bt x.f4.length dt) (x := x) hil hgb (blk_lt hBc) hBc hvb (by have := hbc.size; have := HBS1.out; omega) hown3 hgr hat
            have hP := Nt_push (ts := ts) hgb HBS1.out HBW1.out hrow hel HU1.out hbc (hT5.mono (fun k hk => Nat.le_trans HLT.out hk)) (hM5.mono (fun k hk => Nat.le_trans HLT.out hk)) hat hW5
            have HS2 := Aside0.mk hP.1
            have HK2 := Aside0.mk (HK1.out.trans hP.2)
            have hX9 := hP.2.blk HBX1.out (by omega) (hnr _ hbW1)
            obtain ⟨x0, x1, x2, x3, x4, x5, x6⟩ := box7 hX9
            clear hW5 hP hB3 hX3 p0 p1 p2 p3 p4 p5 p6 q0 q1 q2 q3 q4 q5 q6 hown3 hgr hat hBc hXc hT5 hM5 hrow hel hX9 hnews
            refine wpAnyH_done (by kernel_rfl) ?_ _
            go_wp2_with fail
            go_meet
            case rel => exact ⟨HS2, HK2, x0, x1, x2, x3, x4, x5, x6⟩
          · have wc0 := (blk_cell hB3 0).trans rfl
            have rc0 := blk_frozen hB3 0
            dsimp only [ntO13]
            go_simp
            refine hK.out _ _ (by exact box7 (blk_far hX3 (by (try dsimp only); exact hxg2) _)) (fun hHeld => ?_)
            clear hK K
            try simp only [Act.put, List.setIfInBounds_toArray, List.set_cons_zero, List.set_cons_succ]
            have hown4 := own_move (w1 := w3.setCell ⟨g, 0, none⟩ (.slice (some ⟨g', 0, none⟩) (vs.length + 1) cap)) hown3 (fun k hk => Below.heap_setCell _ _ _ k (own_slice_ne hk hgg))
            clear p0 p1 p2 p3 p4 p5 p6 q0 q1 q2 q3 q4 q5 q6 wc0 rc0
            obtain ⟨p0, p1, p2, p3, p4, p5, p6, q0, q1, q2, q3, q4, q5, q6⟩ := own_cells7 hil hown4
            refine wpAnyH_ready (rs := [10]) (by kernel_rfl) (by simp) ?_
            refine AllReadyH.cons (o := ntO10) rfl (fun K hK => ?_) AllReadyH.nil
            dsimp only [ntO10]
            go_simp
            refine hK.out _ _ (by exact box7 (blk_far (blk_far (blk_far (blk_far (blk_far (blk_far (blk_far ((blk_far hX3 (by (try dsimp only); exact hxg2) _)) (by (try dsimp only); exact hxg) _) (by (try dsimp only); exact hxg) _) (by (try dsimp only); exact hxg) _) (by (try dsimp only); exact hxg) _) (by (try dsimp only); exact hxg) _) (by (try dsimp only); exact hxg) _) (by (try dsimp only); exact hxg) _)) (fun hHeld => ?_)
            clear hK K
            try simp only [Act.put, List.setIfInBounds_toArray, List.set_cons_zero, List.set_cons_succ]
            clear hown4
            have hW5 := Nt_wb (ut := .slice At x.f2.f2.length ct) (us := .slice Bt x.f4.length dt) (x := x) hil hgb (blk_lt hBc) hBc hvb (by have := hbc.size; have := HBS1.out; omega) hown3 hgr hat
            have hP := Nt_push (ts := ts) hgb HBS1.out HBW1.out hrow hel HU1.out hbc (hT5.mono (fun k hk => Nat.le_trans HLT.out hk)) (hM5.mono (fun k hk => Nat.le_trans HLT.out hk)) hat hW5
            have HS2 := Aside0.mk hP.1
            have HK2 := Aside0.mk (HK1.out.trans hP.2)
            have hX9 := hP.2.blk HBX1.out (by omega) (hnr _ hbW1)
            obtain ⟨x0, x1, x2, x3, x4, x5, x6⟩ := box7 hX9
            clear hW5 hP hB3 hX3 p0 p1 p2 p3 p4 p5 p6 q0 q1 q2 q3 q4 q5 q6 hown3 hgr hat hBc hXc hT5 hM5 hrow hel hX9 hnews
            refine wpAnyH_done (by kernel_rfl) ?_ _
            go_wp2_with fail
            go_meet
            case rel => exact ⟨HS2, HK2, x0, x1, x2, x3, x4, x5, x6⟩
        · dsimp only [ntO5]
          go_simp
          go_wp2_with (go_at_call 28; (with_reducible refine (et _ hbc).mono ?_); rintro e w5 ⟨r5, rfl, hO5, hb5⟩; obtain ⟨vt, vs5, hr5, hT5, hM5⟩ := hO5; subst hr5; obtain ⟨At, ct, hvt, _, _⟩ := hT5.reads; subst hvt; obtain ⟨Bt, dt, hvs, _, _⟩ := hM5.reads; subst hvs)
          have HLT := Aside0.mk hbc.size
          replace hBc := blk_below hBc hb5
          replace hXc := blk_below hXc hb5
          have hnews := blk_below hnews hb5
          replace hbc := below_step hbc hb5
          refine hK.out _ _ (by exact box7 hXc) (fun hHeld => ?_)
          clear hK K
          try simp only [Act.put, List.setIfInBounds_toArray, List.set_cons_zero, List.set_cons_succ]
          refine wpAnyH_ready (rs := [3]) (by kernel_rfl) (by simp) ?_
          refine AllReadyH.cons (o := ntO3) rfl (fun K hK => ?_) AllReadyH.nil
          dsimp only [ntO3]
          have wc0 := (blk_cell hBc 0).trans rfl
          go_simp
          refine hK.out _ _ (by exact box7 hXc) (fun hHeld => ?_)
          clear hK K
          try simp only [Act.put, List.setIfInBounds_toArray, List.set_cons_zero, List.set_cons_succ]
          refine wpAnyH_take (i := 6) (oi := ntO6) (v := ?_) rfl (by kernel_rfl) (by kernel_rfl) (by kernel_rfl) (fun _ _ _ h => h) (Or.inl ⟨by rfl, ?_⟩) (by assumption) ?_
          rotate_left
          · intro w' hSw; (try dsimp only at hSw); (try dsimp only [ntO6]); go_simp; try with_reducible rfl
          try simp only [ntO6]
          try simp only [Act.put, List.setIfInBounds_toArray, List.set_cons_zero, List.set_cons_succ]
          obtain ⟨i0, hi0, hz0, hz1, hz2⟩ := info_parts info27
          obtain ⟨inner, tsf, ssf, hrow, hel⟩ := id HV1.out
          have hlow : ∀ k, W1.heap.size ≤ k → w.heap.size ≤ k := fun k hk => Nat.le_trans (Nat.le_of_lt (blk_lt HBX1.out)) hk
          refine wpAnyH_ready (rs := [8]) (by kernel_rfl) (by simp) ?_
          refine AllReadyH.cons (o := ntO8) rfl (fun K hK => ?_) AllReadyH.nil
          refine step_append_lies _ rfl _ _ 25 rfl base 27 i0 _ 7 104 Try.underlying25 hi0 hz0 hz1 hz2 rfl (by decide) (.slice RA vs.length rc) vs.length inner rfl (own_later hrow hbc) ⟨W1.heap.size, 0, none⟩ 1 1 [.int .u8 0, .string ⟨#[]⟩, .bool false, .string ⟨#[]⟩, .slice none 0 0, .int .i64 0, .slice none 0 0] rfl rfl (World.news_of_block hnews) ?hone (by decide) ?h63 ?hby ?hbase _ rfl ?_
          case hone => simp [Value.oneCell']
          case h63 => have := HVL.out; unfold maxLen; omega
          case hby => have := HVL.out; omega
          case hbase => have := hbc.size; have := HBS1.out; omega
          intro g' cap w3 hown3 hgr hat hg3
          have hvb : ∀ k, (Value.slice RA vs.length rc).ownBlock = some k → base ≤ k := fun k hk => own_base hrow k hk
          have hvx : some w.heap.size ≠ (Value.slice RA vs.length rc).ownBlock := fun e => hnr _ hbW1 ⟨_, _, HBW1.out, .inl e.symm⟩
          have hB3 := (hgr.block g (blk_lt hBc) (fun e => by have := hvb g e.symm; omega)).trans hBc
          have hX3 := (hgr.block w.heap.size (blk_lt hXc) hvx).trans hXc
          have hil : inner.length = vs.length * 7 := hrow.1
          have hl1 : (vs.length : Int) < (vs.length : Int) + 1 := by omega
          obtain ⟨p0, p1, p2, p3, p4, p5, p6, q0, q1, q2, q3, q4, q5, q6⟩ := own_cells7 hil hown3
          refine hK.out _ _ (by exact box7 hX3) (fun hHeld => ?_)
          clear hK K
          try simp only [Act.put, List.setIfInBounds_toArray, List.set_cons_zero, List.set_cons_succ]
          refine wpAnyH_take (i := 9) (oi := ntO9) (v := ?_) rfl (by kernel_rfl) (by kernel_rfl) (by kernel_rfl) (fun _ _ _ h => h) (Or.inl ⟨by rfl, ?_⟩) (by assumption) ?_
          rotate_left
          · intro w' hSw; (try dsimp only at hSw); (try dsimp only [ntO9]); go_simp; try with_reducible rfl
          try simp only [ntO9]
          try simp only [Act.put, List.setIfInBounds_toArray, List.set_cons_zero, List.set_cons_succ]
          refine wpAnyH_take (i := 11) (oi := ntO11) (v := ?_) rfl (by kernel_rfl) (by kernel_rfl) (by kernel_rfl) (fun _ _ _ h => h) (Or.inl ⟨by rfl, ?_⟩) (by assumption) ?_
          rotate_left
          · intro w' hSw; (try dsimp only at hSw); (try dsimp only [ntO11]); go_simp; try with_reducible rfl
          try simp only [ntO11]
          try simp only [Act.put, List.setIfInBounds_toArray, List.set_cons_zero, List.set_cons_succ]
          refine wpAnyH_take (i := 12) (oi := ntO12) (v := ?_) rfl (by kernel_rfl) (by kernel_rfl) (by kernel_rfl) (fun _ _ _ h => h) (Or.inl ⟨by rfl, ?_⟩) (by assumption) ?_
          rotate_left
          · intro w' hSw; (try dsimp only at hSw); (try dsimp only [ntO12]); go_simp; try with_reducible rfl
          try simp only [ntO12]
          try simp only [Act.put, List.setIfInBounds_toArray, List.set_cons_zero, List.set_cons_succ]
          have hgg : g ≠ g' := fun e => by
            rcases hat with h | h
            · have := hvb _ h; omega
            · have := blk_lt hBc; omega
          have hxg : w.heap.size ≠ g' := fun e => by
            rcases hat with h | h
            · exact hvx (by rw [e, h])
            · have := blk_lt hXc; omega
          have hxg2 : w.heap.size ≠ g := by omega
          refine wpAnyH_ready (rs := [10, 13]) (by kernel_rfl) (by simp) ?_
          refine AllReadyH.cons (o := ntO10) rfl (fun K hK => ?_) (AllReadyH.cons (o := ntO13) rfl (fun K hK => ?_) AllReadyH.nil)
          · dsimp only [ntO10]
            go_simp
            refine hK.out _ _ (by exact box7 (blk_far (blk_far (blk_far (blk_far (blk_far (blk_far (blk_far (hX3) (by (try dsimp only); exact hxg) _) (by (try dsimp only); exact hxg) _) (by (try dsimp only); exact hxg) _) (by (try dsimp only); exact hxg) _) (by (try dsimp only); exact hxg) _) (by (try dsimp only); exact hxg) _) (by (try dsimp only); exact hxg) _)) (fun hHeld => ?_)
            clear hK K
            try simp only [Act.put, List.setIfInBounds_toArray, List.set_cons_zero, List.set_cons_succ]
            have hB4 : ((((((((w3).setCell ⟨g', vs.length * 7, none⟩ (.int .u8 x.f0)).setCell ⟨g', vs.length * 7 + 1, none⟩ (.string x.f1)).setCell ⟨g', vs.length * 7 + 2, none⟩ (.bool x.f2.f0)).setCell ⟨g', vs.length * 7 + 3, none⟩ (.string x.f2.f1)).setCell ⟨g', vs.length * 7 + 4, none⟩ (.slice At x.f2.f2.length ct)).setCell ⟨g', vs.length * 7 + 5, none⟩ (.int .i64 x.f3)).setCell ⟨g', vs.length * 7 + 6, none⟩ (.slice Bt x.f4.length dt)).heap[g]? = some (.cells #[.slice RA vs.length rc, .slice RB ts.length rd] 126 (0, 0)) := blk_far (blk_far (blk_far (blk_far (blk_far (blk_far (blk_far (hB3) (by (try dsimp only); exact hgg) _) (by (try dsimp only); exact hgg) _) (by (try dsimp only); exact hgg) _) (by (try dsimp only); exact hgg) _) (by (try dsimp only); exact hgg) _) (by (try dsimp only); exact hgg) _) (by (try dsimp only); exact hgg) _
            have wc0 := (blk_cell hB4 0).trans rfl
            have rc0 := blk_frozen hB4 0
            refine wpAnyH_ready (rs := [13]) (by kernel_rfl) (by simp) ?_
            refine AllReadyH.cons (o := ntO13) rfl (fun K hK => ?_) AllReadyH.nil
            dsimp only [ntO13]
            go_simp
            refine hK.out _ _ (by exact box7 (blk_far (blk_far (blk_far (blk_far (blk_far (blk_far (blk_far (blk_far (hX3) (by (try dsimp only); exact hxg) _) (by (try dsimp only); exact hxg) _) (by (try dsimp only); exact hxg) _) (by (try dsimp only); exact hxg) _) (by (try dsimp only); exact hxg) _) (by (try dsimp only); exact hxg) _) (by (try dsimp only); exact hxg) _) (by (try dsimp only); exact hxg2) _)) (fun hHeld => ?_)
            clear hK K
            try simp only [Act.put, List.setIfInBounds_toArray, List.set_cons_zero, List.set_cons_succ]
            clear hB4 wc0 rc0
            have hW5 := Nt_wa (ut := .slice At x.f2.f2.length ct) (us := .slice Bt x.f4.length dt) (x := x) hil hgb (blk_lt hBc) hBc hvb (by have := hbc.size; have := HBS1.out; omega) hown3 hgr hat
            have hP := Nt_push (ts := ts) hgb HBS1.out HBW1.out hrow hel HU1.out hbc (hT5.mono (fun k hk => Nat.le_trans HLT.out hk)) (hM5.mono (fun k hk => Nat.le_trans HLT.out hk)) hat hW5
            have HS2 := Aside0.mk hP.1
            have HK2 := Aside0.mk (HK1.out.trans hP.2)
            have hX9 := hP.2.blk HBX1.out (by omega) (hnr _ hbW1)
            obtain ⟨x0, x1, x2, x3, x4, x5, x6⟩ := box7 hX9
            clear hW5 hP hB3 hX3 p0 p1 p2 p3 p4 p5 p6 q0 q1 q2 q3 q4 q5 q6 hown3 hgr hat hBc hXc hT5 hM5 hrow hel hX9 hnews
            refine wpAnyH_done (by kernel_rfl) ?_ _
            go_wp2_with fail
            go_meet
            case rel => exact ⟨HS2, HK2, x0, x1, x2, x3, x4, x5, x6⟩
          · have wc0 := (blk_cell hB3 0).trans rfl
            have rc0 := blk_frozen hB3 0
            dsimp only [ntO13]
            go_simp
            refine hK.out _ _ (by exact box7 (blk_far hX3 (by (try dsimp only); exact hxg2) _)) (fun hHeld => ?_)
            clear hK K
            try simp only [Act.put, List.setIfInBounds_toArray, List.set_cons_zero, List.set_cons_succ]
            have hown4 := own_move (w1 := w3.setCell ⟨g, 0, none⟩ (.slice (some ⟨g', 0, none⟩) (vs.length + 1) cap)) hown3 (fun k hk => Below.heap_setCell _ _ _ k (own_slice_ne hk hgg))
            clear p0 p1 p2 p3 p4 p5 p6 q0 q1 q2 q3 q4 q5 q6 wc0 rc0
            obtain ⟨p0, p1, p2, p3, p4, p5, p6, q0, q1, q2, q3, q4, q5, q6⟩ := own_cells7 hil hown4
            refine wpAnyH_ready (rs := [10]) (by kernel_rfl) (by simp) ?_
            refine AllReadyH.cons (o := ntO10) rfl (fun K hK => ?_) AllReadyH.nil
            dsimp only [ntO10]
            go_simp
            refine hK.out _ _ (by exact box7 (blk_far (blk_far (blk_far (blk_far (blk_far (blk_far (blk_far ((blk_far hX3 (by (try dsimp only); exact hxg2) _)) (by (try dsimp only); exact hxg) _) (by (try dsimp only); exact hxg) _) (by (try dsimp only); exact hxg) _) (by (try dsimp only); exact hxg) _) (by (try dsimp only); exact hxg) _) (by (try dsimp only); exact hxg) _) (by (try dsimp only); exact hxg) _)) (fun hHeld => ?_)
            clear hK K
            try simp only [Act.put, List.setIfInBounds_toArray, List.set_cons_zero, List.set_cons_succ]
            clear hown4
            have hW5 := Nt_wb (ut := .slice At x.f2.f2.length ct) (us := .slice Bt x.f4.length dt) (x := x) hil hgb (blk_lt hBc) hBc hvb (by have := hbc.size; have := HBS1.out; omega) hown3 hgr hat
            have hP := Nt_push (ts := ts) hgb HBS1.out HBW1.out hrow hel HU1.out hbc (hT5.mono (fun k hk => Nat.le_trans HLT.out hk)) (hM5.mono (fun k hk => Nat.le_trans HLT.out hk)) hat hW5
            have HS2 := Aside0.mk hP.1
            have HK2 := Aside0.mk (HK1.out.trans hP.2)
            have hX9 := hP.2.blk HBX1.out (by omega) (hnr _ hbW1)
            obtain ⟨x0, x1, x2, x3, x4, x5, x6⟩ := box7 hX9
            clear hW5 hP hB3 hX3 p0 p1 p2 p3 p4 p5 p6 q0 q1 q2 q3 q4 q5 q6 hown3 hgr hat hBc hXc hT5 hM5 hrow hel hX9 hnews
            refine wpAnyH_done (by kernel_rfl) ?_ _
            go_wp2_with fail
            go_meet
            case rel => exact ⟨HS2, HK2, x0, x1, x2, x3, x4, x5, x6⟩
  · rw [hfr, if_neg h1]
    have k1 : (x.f0 == 1) = false := beq_eq_false_iff_ne.mpr h1
    have HS2 := Aside0.mk hS0
    have HK2 := Aside0.mk hK0
    clear hS hS0 hX hX0 hXW hn1 hfr hV hU hnr hk hl htv hCv hCu hft hcB h1 hf
    go_enter Try.func101, Try.ntmps101
    go_wp2_with (go_at_call 53; (with_reducible refine (evr _ HK2.out).mono ?_); rintro e W4 ⟨v4, rfl, hL, hb4⟩; obtain ⟨RL, rl, hv4, hll, hCL⟩ := Kd.R_reads hL; subst hv4)
    have HS3 := HS2.out
    have hgW := Nat.lt_of_lt_of_le hgw HK2.out.size
    have HS4 := HS3.later hb4
    have HK4 := HK2.out.trans (NtK.of_below hgW hb4)
    have HLR := Aside0.mk (fun wr (hk : NtK g W4 wr) => StrR.kept hgW HS3 hb4 hL hk)
    clear hCL HS3 hL HS2 HK2
    generalize hLq : varsL (preT x.f2) [] = L at *
    have HLQ := Lib.hid hLq
    clear hLq
    go_loopg [7, 48] L.length (fun gg _ v48 wr => ∃ kk : Nat, kk ≤ L.length ∧ gg + kk = L.length ∧ v48 = .int .i64 (kk : Int) ∧ Aside0 (NtS base g (vs) (addNs (L.take kk) ts) wr) ∧ Aside0 (NtK g W4 wr))
    case atStart => exact ⟨0, by omega, by omega, rfl, ⟨HS4⟩, ⟨⟨Below.refl _ _, fun _ _ _ _ => rfl, fun _ h => .inl h⟩⟩⟩
    case round =>
      obtain ⟨kk, hk1, hk2, rfl, HSr, HKr⟩ := hrel
      clear HS4
      obtain ⟨v, u, hBr, hVr, hUr⟩ := id HSr.out
      obtain ⟨RA', rc', rfl, _, _⟩ := hVr.reads
      obtain ⟨RB', rd', rfl, hul', hCu'⟩ := Kd.R_reads hUr
      have w0 := (blk_cell hBr 0).trans rfl
      have w1 := (blk_cell hBr 1).trans rfl
      have hgl := hBr.lt
      by_cases hkk : kk < L.length
      · have q0 : decide (kk < L.length) = true := decide_eq_true hkk
        obtain ⟨RL2, rl2, he2, _, hCL⟩ := Kd.R_reads (HLR.out wr HKr.out)
        injection he2 with he2 _ he3
        subst he2 he3
        obtain ⟨ad, e1, hx⟩ := Kd.at_string hCL (kk : Int) (by omega) (by omega)
        cases e1
        rw [rdOf_get L kk hkk, Int.toNat_natCast] at hx
        have hnx := addNs_take L ts kk hkk
        have hcl := addNs_len (L.take kk) ts
        rw [List.length_take] at hcl
        have HNX := Lib.hid hnx
        have hcf := contains_f (addNs (L.take kk) ts) L[kk] (by have := HTL.out; have := HLL.out; omega)
        have HCL := Lib.hid hcl
        clear hnx hcl hCL
        generalize L[kk] = s at *
        generalize addNs (L.take kk) ts = cur at *
        have hct := fun W (hW : Below wr.heap.size wr W) => slices_Contains_string_string.calls _ RB' rd' cur s _ W (Kd.C_below hCu' hW) hul' hcf
        clear hCu' hcf
        have hbr := Below.refl wr.heap.size wr
        cases hin : inS cur s with
        | true =>
          rw [hin] at hct
          have hadd : addN cur s = cur := by unfold addN; rw [if_pos hin]
          have HADD := Lib.hid hadd
          clear hadd hin
          go_wp2_with (go_at_call 117; (with_reducible refine (hct _ hbr).mono ?_); rintro e W5 ⟨rfl, hd⟩; have hb5 := hd.below)
          go_roundg (L.length - kk - 1)
          case measure => omega
          case rel => exact ⟨kk + 1, by omega, by omega, by simp <;> exact w64s (by have := HTL.out; have := HLL.out; omega), ⟨by rw [HNX.out, HADD.out]; exact HSr.out.later hb5⟩, ⟨HKr.out.trans (NtK.of_below hgl hb5)⟩⟩
        | false =>
          rw [hin] at hct
          have hadd : addN cur s = cur ++ [s] := by unfold addN; rw [if_neg (by rw [hin]; simp)]
          have HADD := Lib.hid hadd
          clear hadd hin
          go_wp2_with (first | ((with_reducible refine gate_dst (N := 66) rfl ?_); refine lock4_ ?_) | (go_at_call 117; (with_reducible refine (hct _ hbr).mono ?_); rintro e W5 ⟨rfl, hd⟩; have hb5 := hd.below; have hB5 := blk_below hBr hb5; have w0 := (blk_cell hB5 0).trans rfl; have w1 := (blk_cell hB5 1).trans rfl))
          unfold Lock4
          have hS5 := HSr.out.later hb5
          have hbs5 : base ≤ W5.heap.size := Nat.le_trans hbs (Nat.le_trans (HK4.trans HKr.out).size hb5.size)
          refine Kd.R_append Kd.string (w0 := W5) base (by rfl) (.tmp 63) (.tmp 65) 43 9 (.string ⟨#[]⟩) 16 (by rfl) Try.underlying43 info_str (by rfl) (by decide) (by decide) (.slice RB' cur.length rd') cur s [.string s] (fun _ => True) (fun _ => False) (by rfl) (by rfl) rfl (fun _ h => h.elim) (fun _ _ => trivial) (Kd.R_below hUr hb5) (Below.refl _ _) hbs5 (by have := HTL.out; have := HCL.out; have := HLL.out; omega) ?_
          intro v2 W6 hR6 hB6 hg6 hat6
          obtain ⟨RC, re, hv2, _, _⟩ := Kd.R_reads hR6
          rw [show (cur ++ [s]).length = cur.length + 1 by simp] at hv2
          subst hv2
          have hfin := Nt_str hgb hB5 (hVr.later hb5) (Kd.R_below hUr hb5) hR6 hB6 hg6 hat6
          have HFIN := Aside0.mk hfin
          have hB6' : W6.heap[g]? = some (.cells #[.slice RA' (vs).length rc', .slice RB' cur.length rd'] 126 (0, 0)) := (hg6.block g (blk_lt hB5) (fun e => by obtain ⟨_, _, ho, _⟩ := Kd.R_below hUr hb5; have := own_base ho g e.symm; omega)).trans hB5
          clear hfin hR6 hB6 hg6 hat6 w0 w1
          have w0 := (blk_cell hB6' 0).trans rfl
          have w1 := (blk_cell hB6' 1).trans rfl
          have r1 := blk_frozen hB6' 1
          clear hct
          go_wp2_with fail
          go_roundg (L.length - kk - 1)
          case measure => omega
          case rel => exact ⟨kk + 1, by omega, by omega, by simp <;> exact w64s (by have := HTL.out; have := HLL.out; omega), ⟨by rw [HNX.out, HADD.out]; exact HFIN.out.1⟩, ⟨(HKr.out.trans (NtK.of_below hgl hb5)).trans HFIN.out.2⟩⟩
      · have q0 : decide (kk < L.length) = false := decide_eq_false hkk
        obtain rfl : kk = L.length := by omega
        have HSE := HSr.out
        rw [List.take_length] at HSE
        have HSEA := Aside0.mk HSE
        clear HSE hkk
        go_wp2_with fail
        refine bodyPost_end (v := .tuple #[]) (by simp [results, Try.results101, go_sem]) rfl ?_
        exact ⟨rfl, by rw [HLQ.out]; exact HSEA.out, HK4.trans HKr.out⟩
end Go.Proofs.Ytecplbgdalchdaa.Q
/- Proved here: the contracts of terms.each, Free and TypeVars. Conditions: those that each theorem names. -/
namespace Go.Proofs.Ytecplbgdalchdaa.Q
open Go.RowKit Go.Shelf Go.Proofs.YtecplbgdalchdaaW.PrintWords Go.Proofs.YtecplbgdalchdaaW.PrintMore
set_option linter.unusedVariables false
set_option linter.unusedSimpArgs false
attribute [local go_sem] Oper.semAt_some


abbrev NodeOk (x : S27) : Prop := (x.f0 = 3 ∨ x.f0 = 4) ∨ ((x.f0 = 1 ∨ x.f0 = 2 ∨ x.f0 = 5) ∧ chkB x.f2 = true)
theorem formM_nodes (t : S27) : ∀ (l : List S24) (u : S24), formM t l = some u → allM NodeOk t := by
  induction t using M_ind with
  | _ t ih =>
  intro l u h
  refine allM_mk ?_ (fun x hx => ?_)
  · rcases formM_inv h with ⟨h0, _, h2, _⟩ | ⟨h0, _⟩ | ⟨h0, _⟩ | ⟨h0, _, h2, _⟩
    · exact .inr ⟨by omega, h2⟩
    · exact .inl (.inl h0)
    · exact .inl (.inr h0)
    · exact .inr ⟨by omega, h2⟩
  · obtain ⟨p, hp⟩ := formM_kid h hx
    exact ih x hx _ _ hp
theorem frL_take (l : List S27) (j : Nat) (h : j < l.length) (out : List S27) : frL (preML (l.take (j + 1))) out = frL (preM l[j]) (frL (preML (l.take j)) out) := by rw [preML_take l j h, frL_app]
theorem tvL_take (l : List S27) (j : Nat) (h : j < l.length) (out : List ByteArray) : tvL (preML (l.take (j + 1))) out = tvL (preM l[j]) (tvL (preML (l.take j)) out) := by rw [preML_take l j h, tvL_app]
theorem tvL_len : ∀ (l : List S27) (out : List ByteArray), (∀ x, x ∈ l → szT x.f2 ≤ 1000000) → (tvL l out).length ≤ out.length + l.length * 1000000
  | [], out, _ => by simp [tvL]
  | a :: l, out, h => by
    have h1 := tvL_len l (tvStep out a) (fun x hx => h x (by simp [hx]))
    have h2 := tvStep_len out a
    have h3 := h a (by simp)
    simp only [tvL, List.foldl_cons, List.length_cons] at h1 ⊢
    omega
theorem preML_fit {t : S27} (hf : fitM t) (j : Nat) : ∀ x, x ∈ preML (t.f4.take j) → szT x.f2 ≤ 1000000 := by
  intro x hx
  obtain ⟨y, hy, hxy⟩ := preML_mem.1 hx
  exact (allM_pre y (allM_sub hf.1 (List.mem_of_mem_take hy)) x hxy).2.2.1
theorem szML_takeb (l : List S27) (j : Nat) (h : j < l.length) : szML (l.take j) + szM l[j] ≤ szML l := szML_le l j h
set_option maxHeartbeats 8000000 in
set_option maxRecDepth 100000 in
theorem each_calls (n : Nat) : ∀ x : S27, szM x ≤ n → fitM x → allM NodeOk x → ∀ (base g : Nat) (vs : List S27) (ts : List ByteArray) (A : Option Addr) (c : Nat) (B : Option Addr) (d : Nat) (w : World), g < base → base ≤ w.heap.size → NtS base g vs ts w → RdF w (fun k => k < g) x A c B d → vs.length + szM x ≤ 1000000 → ts.length + szM x * 1000000 ≤ 1000000000000 →
    Calls Try.prog 102 #[.agg #[.int .u8 x.f0, .string x.f1, .bool x.f2.f0, .string x.f2.f1, .slice A x.f2.f2.length c, .int .i64 x.f3, .slice B x.f4.length d], .func (.func 101) #[.pointer (some ⟨g, 0, none⟩)] #[]] w fun e w' => e = .returned (.tuple #[]) ∧ NtS base g (frL (preM x) vs) (tvL (preM x) ts) w' ∧ NtK g w w' := by
  induction n with
  | zero => intro x hn; have := szM_pos x; omega
  | succ n ih =>
  intro x hn hf ho base g vs ts A c B d w hgb hbs hS hX hvl htl
  have hb0 := below_one (w := w) (.cells #[.int .u8 x.f0, .string x.f1, .bool x.f2.f0, .string x.f2.f1, .slice A x.f2.f2.length c, .int .i64 x.f3, .slice B x.f4.length d] 27)
  have BX := blk_new w (.cells #[.int .u8 x.f0, .string x.f1, .bool x.f2.f0, .string x.f2.f1, .slice A x.f2.f2.length c, .int .i64 x.f3, .slice B x.f4.length d] 27)
  have hsz := szM_eq x
  have hlen := szML_len x.f4
  have htx := (allM_top hf.1).2.2.1
  have hgw : g < w.heap.size := by omega
  have hnr := hS.not_row hb0 (Nat.le_refl _)
  have hno := note_calls x hf (allM_top ho) base g vs ts A c B d _ hgb (Nat.le_trans hbs hb0.size) (hS.later hb0) (hX.later hb0) (by omega) (by omega)
  have eg : ∀ args w, (callFunc 101 args).run Try.prog w = .ok (.enter 101 args) w := enters_of Try.func101 (by kernel_rfl) rfl
  have hfr : frL (preM x) vs = frL (preML x.f4) (frStep vs x) := by rw [preM_eq]; rfl
  have htv : tvL (preM x) ts = tvL (preML x.f4) (tvStep ts x) := by rw [preM_eq]; rfl
  rw [hfr, htv]
  have hvl1 : (frStep vs x).length ≤ vs.length + 1 := by unfold frStep; split <;> (try split) <;> simp
  have htl1 := tvStep_len ts x
  generalize frStep vs x = vs1 at *
  generalize tvStep ts x = ts1 at *
  have hK0 := NtK.of_below hgw hb0
  have hcall : ∀ kk : Nat, ∀ hk : kk < x.f4.length, ∀ (A2 : Option Addr) (c2 : Nat) (A3 : Option Addr) (c3 : Nat) (W : World), base ≤ W.heap.size → NtS base g (frL (preML (x.f4.take kk)) vs1) (tvL (preML (x.f4.take kk)) ts1) W → RdF W (fun k => k < g) x.f4[kk] A2 c2 A3 c3 →
      Calls Try.prog 102 #[.agg #[.int .u8 x.f4[kk].f0, .string x.f4[kk].f1, .bool x.f4[kk].f2.f0, .string x.f4[kk].f2.f1, .slice A2 x.f4[kk].f2.f2.length c2, .int .i64 x.f4[kk].f3, .slice A3 x.f4[kk].f4.length c3], .func (.func 101) #[.pointer (some ⟨g, 0, none⟩)] #[]] W fun e w' => e = .returned (.tuple #[]) ∧ NtS base g (frL (preML (x.f4.take (kk + 1))) vs1) (tvL (preML (x.f4.take (kk + 1))) ts1) w' ∧ NtK g W w' := by
    intro kk hk A2 c2 A3 c3 W hW hSW hRW
    have hm := List.getElem_mem hk
    have h1 := szML_takeb x.f4 kk hk
    have h2 := frL_len (preML (x.f4.take kk)) vs1
    have h3 := tvL_len (preML (x.f4.take kk)) ts1 (preML_fit hf kk)
    rw [preML_length] at h2 h3
    rw [frL_take _ _ hk, tvL_take _ _ hk]
    exact ih _ (by have := szM_sub hm; omega) (fitM_sub hf hm) (allM_sub ho hm) base g _ _ A2 c2 A3 c3 W hgb hW hSW hRW (by omega) (by omega)
  have HX := Aside0.mk hX
  have HF := Aside0.mk hf
  have HCALL := Aside0.mk hcall
  have HHN := Lib.hid hvl
  obtain ⟨x0, x1, x2, x3, x4, x5, x6⟩ := box7 BX
  clear ih hn hf ho hS hX htl hfr htv hvl1 htl1 htx hcall hb0 hvl
  go_enter Try.func102, Try.ntmps102
  go_wp2_with (go_at_fn 101; (with_reducible refine hno.mono ?_); rintro e W1 ⟨rfl, hS1, hK1⟩; have hX1 := hK1.blk BX (by omega) hnr; obtain ⟨x0, x1, x2, x3, x4, x5, x6⟩ := box7 hX1)
  have HK1 := Aside0.mk (hK0.trans hK1)
  have HS1 := Aside0.mk hS1
  clear hS1 hK1 hX1 x0 x1 x2 x3 x4 x5 x6 hno
  go_loopg [5, 12] x.f4.length (fun gg _ v12 wr => ∃ kk : Nat, kk ≤ x.f4.length ∧ gg + kk = x.f4.length ∧ v12 = .int .i64 (kk : Int) ∧ Aside0 (NtS base g (frL (preML (x.f4.take kk)) vs1) (tvL (preML (x.f4.take kk)) ts1) wr) ∧ Aside0 (NtK g w wr))
  case atStart => exact ⟨0, by omega, by omega, rfl, ⟨HS1.out⟩, ⟨HK1.out⟩⟩
  case round =>
    obtain ⟨kk, hk1, hk2, rfl, HSr, HKr⟩ := hrel
    clear HS1 HK1
    by_cases hkk : kk < x.f4.length
    · have q0 : decide (kk < x.f4.length) = true := decide_eq_true hkk
      have hXr := HX.out.step (fun k hk _ => HKr.out.below.block k hk)
      obtain ⟨ad, A2, c2, A3, c3, e1, ⟨hx0, hx1, hx2, hx3, hx4, hx5, hx6⟩, hE⟩ := tm_elem (Kd.V_mk (e := 27) (base := 0) hXr.2.2 hXr.2.1) kk hkk
      cases e1
      rw [rdM x.f4 kk hkk] at hx0 hx1 hx2 hx3 hx4 hx5 hx6 hE
      have hcall := fun W => HCALL.out kk hkk A2 c2 A3 c3 W
      have hgl := Nat.lt_of_lt_of_le hgw HKr.out.size
      have hbsr : base ≤ wr.heap.size := Nat.le_trans hbs HKr.out.size
      generalize x.f4[kk] = y at *
      have hcl := hcall (wr.alloc (.cells #[.int .u8 y.f0, .string y.f1, .bool y.f2.f0, .string y.f2.f1, .slice A2 y.f2.f2.length c2, .int .i64 y.f3, .slice A3 y.f4.length c3] 27)) (Nat.le_trans hbsr (below_one _).size) (HSr.out.later (below_one _)) (hE.later (below_one _))
      have hKa := NtK.of_below hgl (below_one (w := wr) (.cells #[.int .u8 y.f0, .string y.f1, .bool y.f2.f0, .string y.f2.f1, .slice A2 y.f2.f2.length c2, .int .i64 y.f3, .slice A3 y.f4.length c3] 27))
      clear hcall hXr hE
      go_wp2_with (go_at_call 102; (with_reducible refine hcl.mono ?_); rintro e W2 ⟨rfl, hS2, hK2⟩)
      go_roundg (x.f4.length - kk - 1)
      case measure => omega
      case rel => exact ⟨kk + 1, by omega, by omega, by simp <;> exact w64s (by have := HHN.out; omega), ⟨hS2⟩, ⟨(HKr.out.trans hKa).trans hK2⟩⟩
    · have q0 : decide (kk < x.f4.length) = false := decide_eq_false hkk
      obtain rfl : kk = x.f4.length := by omega
      have HSE := HSr.out
      rw [List.take_length] at HSE
      have HSEA := Aside0.mk HSE
      clear HSE hkk
      go_wp2_with fail
      refine bodyPost_end (v := .tuple #[]) (by simp [results, Try.results102, go_sem]) rfl ?_
      exact ⟨rfl, HSEA.out, HKr.out⟩
/-- Free, TypeVars. -/
def freF (t : S27) : List S27 × Int := if chkM t = 0 then (frM t, 0) else ([], chkM t)
def tyvF (t : S27) : List ByteArray × Int := if chkM t = 0 then (tvM t, 0) else ([], chkM t)
def FreePost (w : World) (p : List S27 × Int) (e : Ending) (w' : World) : Prop := ∃ v, e = .returned (.tuple #[v, .int .i64 p.2]) ∧ WTM w' (fun k => w.heap.size ≤ k) v p.1 ∧ Below w.heap.size w w'
def TyvPost (w : World) (p : List ByteArray × Int) (e : Ending) (w' : World) : Prop := ∃ v, e = .returned (.tuple #[v, .int .i64 p.2]) ∧ StrR w' w.heap.size v p.1 ∧ Below w.heap.size w w'
set_option maxHeartbeats 4000000 in
set_option maxRecDepth 100000 in
theorem free_all_calls (t : S27) (hf : fitM t) (A : Option Addr) (c : Nat) (B : Option Addr) (d : Nat) (w : World) (hX : RdM w t A c B d) : Calls Try.prog 22 #[.agg #[.int .u8 t.f0, .string t.f1, .bool t.f2.f0, .string t.f2.f1, .slice A t.f2.f2.length c, .int .i64 t.f3, .slice B t.f4.length d]] w (FreePost w (freF t)) := by
  have hb0 := below_one (w := w) (.cells #[.int .u8 t.f0, .string t.f1, .bool t.f2.f0, .string t.f2.f1, .slice A t.f2.f2.length c, .int .i64 t.f3, .slice B t.f4.length d] 27)
  have BX := blk_new w (.cells #[.int .u8 t.f0, .string t.f1, .bool t.f2.f0, .string t.f2.f1, .slice A t.f2.f2.length c, .int .i64 t.f3, .slice B t.f4.length d] 27)
  obtain ⟨x0, x1, x2, x3, x4, x5, x6⟩ := box7 BX
  have ec := fun W (hw : Below w.heap.size w W) => chkM_calls t hf A c B d W (hX.later hw)
  have hR : freF t = if chkM t = 0 then (frM t, 0) else ([], chkM t) := rfl
  have hXF : RdF w (fun k => k < w.heap.size) t A c B d := ⟨⟨Kd.C_F k24_heap hX.1.1, hX.1.2⟩, Kd.C_F k27_heap hX.2.1, hX.2.2⟩
  unfold FreePost
  by_cases hq : chkM t ≠ 0
  · rw [hR, if_neg hq]
    have p1 : (chkM t != 0) = true := bne_iff_ne.mpr hq
    clear hR hXF hX hq
    generalize chkM t = er at *
    go_enter Try.func22, Try.ntmps22
    go_wp2_with (go_at_call 29; (with_reducible refine (ec _ hb0).mono ?_); rintro e w1 ⟨rfl, hb1⟩)
    refine bodyPost_ret (v := .tuple #[.slice none 0 0, .int .i64 er]) (by simp [results, Try.results22, go_sem]) rfl ?_
    exact ⟨_, rfl, .nil _ _, below_step hb0 hb1⟩
  replace hq : chkM t = 0 := Decidable.not_not.mp hq
  have hs := (chkM_ok hq).1
  have hno := formM_nodes t [] _ (chkM_ok hq).2.2
  rw [hR, if_pos hq]
  rw [hq] at ec
  have ee : ∀ (g : Nat) (W : World), w.heap.size ≤ g → g < W.heap.size → W.heap[g]? = some (.cells #[.slice none 0 0, .slice none 0 0] 126 (0, 0)) → Below w.heap.size w W → Calls Try.prog 102 #[.agg #[.int .u8 t.f0, .string t.f1, .bool t.f2.f0, .string t.f2.f1, .slice A t.f2.f2.length c, .int .i64 t.f3, .slice B t.f4.length d], .func (.func 101) #[.pointer (some ⟨g, 0, none⟩)] #[]] W fun e w' => e = .returned (.tuple #[]) ∧ NtS (g + 1) g (frM t) (tvM t) w' ∧ NtK g W w' := by
    intro g W h1 h2 h3 hb
    exact each_calls _ t (Nat.le_refl _) hf hno (g + 1) g [] [] A c B d W (by omega) h2 (NtS.start h3) ((hXF.later hb).mono (fun k hk => by omega)) (by simp; omega) (by simp; omega)
  clear hR hXF hX hq hs hno
  go_enter Try.func22, Try.ntmps22
  go_wp2_with (first
    | (go_at_call 102; (with_reducible refine (ee _ _ hb1'.size (blk_lt BW) BW hbw).mono ?_); rintro e w2 ⟨rfl, hS2, hK2⟩; obtain ⟨v, u, hB2, hV2, hU2⟩ := hS2; obtain ⟨RA, rc, hv, _, _⟩ := hV2.reads; subst hv; obtain ⟨RB, rd, hu, _, _⟩ := Kd.R_reads hU2; subst hu; have w0 := (blk_cell hB2 0).trans rfl; have w1' := (blk_cell hB2 1).trans rfl)
    | (go_at_call 29; (with_reducible refine (ec _ hb0).mono ?_); rintro e w1 ⟨rfl, hb1⟩; have hb1' := below_step hb0 hb1; have BX1 := blk_below BX hb1; obtain ⟨x0, x1, x2, x3, x4, x5, x6⟩ := box7 (blk_alloc BX1 (.cells #[.slice none 0 0, .slice none 0 0] 126)); have hbw := below_step hb1' (below_one (w := w1) (.cells #[.slice none 0 0, .slice none 0 0] 126)); have BW := blk_new w1 (.cells #[.slice none 0 0, .slice none 0 0] 126)))
  refine bodyPost_ret (v := .tuple #[.slice RA (frM t).length rc, .int .i64 0]) (by simp [results, Try.results22, go_sem]) rfl ?_
  have hfin := hbw.trans (hK2.below.mono hb1'.size)
  exact ⟨_, rfl, hV2.tree.mono (fun k hk => by have := hb1'.size; omega), hfin⟩
set_option maxHeartbeats 4000000 in
set_option maxRecDepth 100000 in
theorem tyvars_all_calls (t : S27) (hf : fitM t) (A : Option Addr) (c : Nat) (B : Option Addr) (d : Nat) (w : World) (hX : RdM w t A c B d) : Calls Try.prog 24 #[.agg #[.int .u8 t.f0, .string t.f1, .bool t.f2.f0, .string t.f2.f1, .slice A t.f2.f2.length c, .int .i64 t.f3, .slice B t.f4.length d]] w (TyvPost w (tyvF t)) := by
  have hb0 := below_one (w := w) (.cells #[.int .u8 t.f0, .string t.f1, .bool t.f2.f0, .string t.f2.f1, .slice A t.f2.f2.length c, .int .i64 t.f3, .slice B t.f4.length d] 27)
  have BX := blk_new w (.cells #[.int .u8 t.f0, .string t.f1, .bool t.f2.f0, .string t.f2.f1, .slice A t.f2.f2.length c, .int .i64 t.f3, .slice B t.f4.length d] 27)
  obtain ⟨x0, x1, x2, x3, x4, x5, x6⟩ := box7 BX
  have ec := fun W (hw : Below w.heap.size w W) => chkM_calls t hf A c B d W (hX.later hw)
  have hR : tyvF t = if chkM t = 0 then (tvM t, 0) else ([], chkM t) := rfl
  have hXF : RdF w (fun k => k < w.heap.size) t A c B d := ⟨⟨Kd.C_F k24_heap hX.1.1, hX.1.2⟩, Kd.C_F k27_heap hX.2.1, hX.2.2⟩
  unfold TyvPost
  by_cases hq : chkM t ≠ 0
  · rw [hR, if_neg hq]
    have p1 : (chkM t != 0) = true := bne_iff_ne.mpr hq
    clear hR hXF hX hq
    generalize chkM t = er at *
    go_enter Try.func24, Try.ntmps24
    go_wp2_with (go_at_call 29; (with_reducible refine (ec _ hb0).mono ?_); rintro e w1 ⟨rfl, hb1⟩)
    refine bodyPost_ret (v := .tuple #[.slice none 0 0, .int .i64 er]) (by simp [results, Try.results24, go_sem]) rfl ?_
    exact ⟨_, rfl, Kd.R_nil Kd.string _ _ _ _, below_step hb0 hb1⟩
  replace hq : chkM t = 0 := Decidable.not_not.mp hq
  have hs := (chkM_ok hq).1
  have hno := formM_nodes t [] _ (chkM_ok hq).2.2
  rw [hR, if_pos hq]
  rw [hq] at ec
  have ee : ∀ (g : Nat) (W : World), w.heap.size ≤ g → g < W.heap.size → W.heap[g]? = some (.cells #[.slice none 0 0, .slice none 0 0] 126 (0, 0)) → Below w.heap.size w W → Calls Try.prog 102 #[.agg #[.int .u8 t.f0, .string t.f1, .bool t.f2.f0, .string t.f2.f1, .slice A t.f2.f2.length c, .int .i64 t.f3, .slice B t.f4.length d], .func (.func 101) #[.pointer (some ⟨g, 0, none⟩)] #[]] W fun e w' => e = .returned (.tuple #[]) ∧ NtS (g + 1) g (frM t) (tvM t) w' ∧ NtK g W w' := by
    intro g W h1 h2 h3 hb
    exact each_calls _ t (Nat.le_refl _) hf hno (g + 1) g [] [] A c B d W (by omega) h2 (NtS.start h3) ((hXF.later hb).mono (fun k hk => by omega)) (by simp; omega) (by simp; omega)
  clear hR hXF hX hq hs hno
  go_enter Try.func24, Try.ntmps24
  go_wp2_with (first
    | (go_at_call 102; (with_reducible refine (ee _ _ hb1'.size (blk_lt BW) BW hbw).mono ?_); rintro e w2 ⟨rfl, hS2, hK2⟩; obtain ⟨v, u, hB2, hV2, hU2⟩ := hS2; obtain ⟨RA, rc, hv, _, _⟩ := hV2.reads; subst hv; obtain ⟨RB, rd, hu, _, _⟩ := Kd.R_reads hU2; subst hu; have w0 := (blk_cell hB2 0).trans rfl; have w1' := (blk_cell hB2 1).trans rfl)
    | (go_at_call 29; (with_reducible refine (ec _ hb0).mono ?_); rintro e w1 ⟨rfl, hb1⟩; have hb1' := below_step hb0 hb1; have BX1 := blk_below BX hb1; obtain ⟨x0, x1, x2, x3, x4, x5, x6⟩ := box7 (blk_alloc BX1 (.cells #[.slice none 0 0, .slice none 0 0] 126)); have hbw := below_step hb1' (below_one (w := w1) (.cells #[.slice none 0 0, .slice none 0 0] 126)); have BW := blk_new w1 (.cells #[.slice none 0 0, .slice none 0 0] 126)))
  refine bodyPost_ret (v := .tuple #[.slice RB (tvM t).length rd, .int .i64 0]) (by simp [results, Try.results24, go_sem]) rfl ?_
  have hfin := hbw.trans (hK2.below.mono hb1'.size)
  exact ⟨_, rfl, Kd.R_raise (b := w1.heap.size + 1) (b' := w.heap.size) (fun _ _ _ _ h => h) hU2 (fun k hk => by obtain ⟨_, _, ho, _⟩ := hU2; have := own_base ho k hk; have := hb1'.size; omega), hfin⟩
end Go.Proofs.Ytecplbgdalchdaa.Q
/- Proved here: the type variables of a term hold those of its type and of its free variables, in plain trees. Conditions: those that each theorem names. -/
namespace Go.Proofs.Ytecplbgdalchdaa.Q
open Go.RowKit Go.Proofs.YtecplbgdalchdaaW.PrintWords Go.Proofs.YtecplbgdalchdaaW.PrintMore
set_option linter.unusedVariables false
set_option linter.unusedSimpArgs false

def vsT (u : S24) : List ByteArray := varsL (preT u) []
theorem vsT_iff (u : S24) (a : ByteArray) : a ∈ vsT u ↔ ∃ x, x ∈ preT u ∧ x.f0 = true ∧ x.f1 = a := by
  constructor
  · intro h
    rcases varsL_of _ _ a h with h | h
    · cases h
    · exact h
  · rintro ⟨x, hx, h0, rfl⟩
    exact varsL_mem _ _ x hx h0
theorem vsT_fn (n : ByteArray) (p q : S24) (a : ByteArray) : a ∈ vsT ⟨false, n, [p, q]⟩ ↔ a ∈ vsT p ∨ a ∈ vsT q := by
  rw [vsT_iff, vsT_iff, vsT_iff]
  simp only [preT, preL, List.append_nil, List.mem_cons, List.mem_append]
  constructor
  · rintro ⟨x, (rfl | hx | hx), h0, h1⟩
    · cases h0
    · exact .inl ⟨x, hx, h0, h1⟩
    · exact .inr ⟨x, hx, h0, h1⟩
  · rintro (⟨x, hx, h0, h1⟩ | ⟨x, hx, h0, h1⟩)
    · exact ⟨x, .inr (.inl hx), h0, h1⟩
    · exact ⟨x, .inr (.inr hx), h0, h1⟩
theorem tvStep_sub (out : List ByteArray) (x : S27) (a : ByteArray) (h : a ∈ out) : a ∈ tvStep out x := by
  unfold tvStep
  split
  · exact varsL_sub _ _ _ h
  · exact h
theorem tvL_sub : ∀ (l : List S27) (out : List ByteArray) (a : ByteArray), a ∈ out → a ∈ tvL l out
  | [], out, a, h => h
  | x :: l, out, a, h => tvL_sub l (tvStep out x) a (tvStep_sub out x a h)
theorem tvL_mem : ∀ (l : List S27) (out : List ByteArray) (x : S27) (a : ByteArray), x ∈ l → leafy x.f0 = true → a ∈ vsT x.f2 → a ∈ tvL l out
  | y :: l, out, x, a, h, h1, h2 => by
    rcases List.mem_cons.1 h with rfl | h
    · refine tvL_sub l (tvStep out x) a ?_
      unfold tvStep
      rw [if_pos h1, ← addNs_vars]
      exact addNs_mem _ _ _ h2
    · exact tvL_mem l (tvStep out y) x a h h1 h2
theorem leafy_one {k : Int} (h : k = 1 ∨ k = 2 ∨ k = 5) : leafy k = true := (leafy_iff k).2 h
theorem typ_vars (t : S27) : ∀ (l : List S24) (u : S24), formM t l = some u → ∀ a, a ∈ vsT u → (∃ x, x ∈ preM t ∧ leafy x.f0 = true ∧ a ∈ vsT x.f2) ∨ ∃ y, y ∈ l ∧ a ∈ vsT y := by
  induction t using M_ind with
  | _ t ih =>
  intro l u h a ha
  have hself : t ∈ preM t := by rw [preM_eq]; simp
  have hkid : ∀ y, y ∈ t.f4 → ∀ x, x ∈ preM y → x ∈ preM t := fun y hy x hx => by rw [preM_eq]; exact List.mem_cons_of_mem _ (preML_mem.2 ⟨y, hy, hx⟩)
  rcases formM_inv h with ⟨h0, _, _, _, _, rfl⟩ | ⟨_, _, _, _, _, _, h6⟩ | ⟨_, _, _, _, x, y, f, p, hs, hx, hy, rfl⟩ | ⟨h0, _, _, _, x, b, hs, hx, rfl, _⟩
  · exact .inl ⟨t, hself, leafy_one (by omega), ha⟩
  · exact .inr ⟨u, List.mem_of_getElem? h6, ha⟩
  · have hm : x ∈ t.f4 := by rw [hs]; simp
    rcases ih x hm _ _ hx a ((vsT_fn _ _ _ _).2 (.inr ha)) with ⟨z, hz, h1, h2⟩ | h
    · exact .inl ⟨z, hkid x hm z hz, h1, h2⟩
    · exact .inr h
  · have hm : x ∈ t.f4 := by rw [hs]; simp
    rcases (vsT_fn _ _ _ _).1 ha with ha | ha
    · exact .inl ⟨t, hself, leafy_one (by omega), ha⟩
    · rcases ih x hm _ _ hx a ha with ⟨z, hz, h1, h2⟩ | ⟨y, hy, h2⟩
      · exact .inl ⟨z, hkid x hm z hz, h1, h2⟩
      · rcases List.mem_cons.1 hy with rfl | hy
        · exact .inl ⟨t, hself, leafy_one (by omega), h2⟩
        · exact .inr ⟨y, hy, h2⟩
theorem fr_pre {t x : S27} (h : x ∈ frM t) : x ∈ preM t ∧ x.f0 = 1 := by
  rcases frL_of _ _ x h with h | h
  · cases h
  · exact h
theorem tyv_all {t : S27} (h : chkM t = 0) : (∀ a, a ∈ vsT (typM t) → a ∈ tvM t) ∧ ∀ x, x ∈ frM t → chkB x.f2 = true ∧ x.f0 = 1 ∧ ∀ a, a ∈ vsT x.f2 → a ∈ tvM t := by
  have hf := (chkM_ok h).2.2
  refine ⟨fun a ha => ?_, fun x hx => ?_⟩
  · rcases typ_vars t [] _ hf a ha with ⟨x, hx, h1, h2⟩ | ⟨y, hy, _⟩
    · exact tvL_mem _ _ x a hx h1 h2
    · cases hy
  · obtain ⟨h1, h2⟩ := fr_pre hx
    have h3 := allM_pre t (formM_nodes t [] _ hf) x h1
    refine ⟨?_, h2, fun a ha => tvL_mem _ _ x a h1 (leafy_one (.inl h2)) ha⟩
    rcases h3 with h3 | h3
    · omega
    · exact h3.2
/-! ### each free variable once -/
def UnM (l : List S27) : Prop := ∀ (i : Nat) (h : i < l.length), hasM (l.take i) l[i] = false
theorem UnM.snoc {l : List S27} {x : S27} (h : UnM l) (hx : hasM l x = false) : UnM (l ++ [x]) := by
  intro i hi
  rw [List.length_append, List.length_singleton] at hi
  by_cases h1 : i < l.length
  · rw [List.getElem_append_left h1, List.take_append_of_le_length (by omega)]
    exact h i h1
  · obtain rfl : i = l.length := by omega
    rw [List.getElem_append_right (by omega)]
    simp [hx]
theorem frL_un : ∀ (l out : List S27), UnM out → UnM (frL l out)
  | [], out, h => h
  | x :: l, out, h => by
    refine frL_un l (frStep out x) ?_
    unfold frStep
    split
    · split
      · exact h
      · rename_i hh
        exact h.snoc (Bool.eq_false_iff.mpr hh)
    · exact h
theorem frM_un (t : S27) : UnM (frM t) := frL_un _ _ (fun i h => by simp at h)
end Go.Proofs.Ytecplbgdalchdaa.Q
/- Proved here: the walk of the law TermsOpen. Conditions: those that each theorem names. -/
namespace Go.Proofs.Ytecplbgdalchdaa.Q
open Go.RowKit Go.Shelf Go.Proofs.YtecplbgdalchdaaW.PrintWords Go.Proofs.YtecplbgdalchdaaW.PrintMore
set_option linter.unusedVariables false
set_option linter.unusedSimpArgs false
attribute [local go_sem] Oper.semAt_some


theorem pre_all {P : S27 → Prop} (t : S27) : allM P t → ∀ x, x ∈ preM t → allM P x ∧ szM x ≤ szM t := by
  induction t using M_ind with
  | _ t ih =>
  intro h x hx
  rw [preM_eq, List.mem_cons] at hx
  rcases hx with rfl | hx
  · exact ⟨h, Nat.le_refl _⟩
  · obtain ⟨y, hy, hxy⟩ := preML_mem.1 hx
    obtain ⟨h1, h2⟩ := ih y hy (allM_sub h hy) x hxy
    exact ⟨h1, by have := szM_sub hy; omega⟩
theorem fr_fit {t : S27} (h : fitM t) : ∀ x, x ∈ frM t → fitM x := by
  intro x hx
  rcases frL_of _ _ x hx with h1 | ⟨h1, _⟩
  · cases h1
  · obtain ⟨h2, h3⟩ := pre_all t h.1 x h1
    exact ⟨h2, by have := h.2; omega⟩
end Go.Proofs.Ytecplbgdalchdaa.Q
/- Proved here: the walk of the law TermsTyvars. Conditions: those that each theorem names. -/
namespace Go.Proofs.Ytecplbgdalchdaa.Q
open Go.RowKit Go.Shelf Go.Proofs.YtecplbgdalchdaaW.PrintWords Go.Proofs.YtecplbgdalchdaaW.PrintMore
set_option linter.unusedVariables false
set_option linter.unusedSimpArgs false
attribute [local go_sem] Oper.semAt_some


theorem WTM.strs {w w1 : World} {ok : Nat → Prop} {v : Value} {l : List S27} {row : Option Nat} (h : WTM w ok v l) (hg : w.grownBy w1 row) (hne : ∀ k, row = some k → ∃ cur, w.heap[k]? = some (.cells cur 9 (0, 0))) : WTM w1 ok v l := by
  have hd : ∀ (k : Nat) (cur : Array Value) (t : TypeId), t ≠ 9 → w.heap[k]? = some (.cells cur t (0, 0)) → some k ≠ row := by
    intro k cur t ht hb he
    obtain ⟨cur2, hb2⟩ := hne k he.symm
    rw [hb] at hb2
    injection hb2 with hb2
    injection hb2 with _ hb2
    exact ht hb2
  refine (h.kind.step (fun k hk hlt => ?_)).mono (fun k hk => hk.1)
  rcases hk.2 with ⟨cur, hc⟩ | ⟨cur, hc⟩
  · exact hg.block k hlt (hd k cur _ (by decide) hc)
  · exact hg.block k hlt (hd k cur _ (by decide) hc)
def Lock5 (p : Prop) : Prop := p
theorem lock5_ {p : Prop} (h : Lock5 p) : p := h
theorem StrR.typed {w : World} {base : Nat} {u : Value} {ts : List ByteArray} (h : StrR w base u ts) : ∀ k, u.ownBlock = some k → ∃ cur, w.heap[k]? = some (.cells cur 9 (0, 0)) := fun k hk => by
  obtain ⟨_, _, ho, _⟩ := h
  exact own_typed ho k hk
abbrev TvS (w1 : World) (kk : Nat) (x : S27) (ad : Addr) (A2 : Option Addr) (c2 : Nat) (A3 : Option Addr) (c3 : Nat) (W : World) : Prop := Below w1.heap.size w1 W ∧ W.cell? (ad.add (kk * 7)) = some (.int .u8 x.f0) ∧ W.cell? ⟨(ad.add (kk * 7)).block, (ad.add (kk * 7)).off + 1, none⟩ = some (.string x.f1) ∧ W.cell? ⟨(ad.add (kk * 7)).block, (ad.add (kk * 7)).off + 2, none⟩ = some (.bool x.f2.f0) ∧ W.cell? ⟨(ad.add (kk * 7)).block, (ad.add (kk * 7)).off + 3, none⟩ = some (.string x.f2.f1) ∧ W.cell? ⟨(ad.add (kk * 7)).block, (ad.add (kk * 7)).off + 4, none⟩ = some (.slice A2 x.f2.f2.length c2) ∧ W.cell? ⟨(ad.add (kk * 7)).block, (ad.add (kk * 7)).off + 5, none⟩ = some (.int .i64 x.f3) ∧ W.cell? ⟨(ad.add (kk * 7)).block, (ad.add (kk * 7)).off + 6, none⟩ = some (.slice A3 x.f4.length c3)
theorem TvS.step {w1 : World} {kk : Nat} {x : S27} {ad : Addr} {A2 : Option Addr} {c2 : Nat} {A3 : Option Addr} {c3 : Nat} {W W' : World} (h : TvS w1 kk x ad A2 c2 A3 c3 W) (hb : Below W.heap.size W W') : TvS w1 kk x ad A2 c2 A3 c3 W' := by
  obtain ⟨h2, p0, p1, p2, p3, p4, p5, p6⟩ := h
  exact ⟨below_step h2 hb, pw_cell_below hb p0, pw_cell_below hb p1, pw_cell_below hb p2, pw_cell_below hb p3, pw_cell_below hb p4, pw_cell_below hb p5, pw_cell_below hb p6⟩
set_option maxHeartbeats 8000000 in
set_option maxRecDepth 100000 in
theorem law_tyvM (t : S27) (A : Option Addr) (c : Nat) (B : Option Addr) (d : Nat) (w : World) (ht : RdM w t A c B d) (hwt : wdM t) : Calls Try.prog 8 #[.agg #[.int .u8 t.f0, .string t.f1, .bool t.f2.f0, .string t.f2.f1, .slice A t.f2.f2.length c, .int .i64 t.f3, .slice B t.f4.length d]] w fun e w' => e = .returned (.bool true) ∧ Below w.heap.size w w' := by
  obtain ⟨kt, hkt⟩ := (rgreatM_ev t hwt).at
  have hgt : ∀ W, RdM W t A c B d → Calls Try.prog 16 #[.agg #[.int .u8 t.f0, .string t.f1, .bool t.f2.f0, .string t.f2.f1, .slice A t.f2.f2.length c, .int .i64 t.f3, .slice B t.f4.length d]] W fun e w' => e = .returned (.bool (grtM t)) ∧ Below W.heap.size W w' := fun W h => sequentref02_Great.calls kt t.f0 t.f1 t.f2.f0 t.f2.f1 A c t.f2.f2 t.f3 B d t.f4 _ W h.1.1 h.1.2 h.2.1 h.2.2 hkt
  have hbw := below_one (w := w) (.cells #[.int .u8 t.f0, .string t.f1, .bool t.f2.f0, .string t.f2.f1, .slice A t.f2.f2.length c, .int .i64 t.f3, .slice B t.f4.length d] 27)
  have HT : HdM (w.alloc (.cells #[.int .u8 t.f0, .string t.f1, .bool t.f2.f0, .string t.f2.f1, .slice A t.f2.f2.length c, .int .i64 t.f3, .slice B t.f4.length d] 27)) w.heap.size t A c B d := ⟨blk_new _ _, ht.later hbw⟩
  have hft := grtM_fit hwt
  clear hkt ht hwt
  generalize hm : w.alloc (.cells #[.int .u8 t.f0, .string t.f1, .bool t.f2.f0, .string t.f2.f1, .slice A t.f2.f2.length c, .int .i64 t.f3, .slice B t.f4.length d] 27) = W0 at *
  have HM := Lib.hid hm
  clear hm
  cases hqt : grtM t with
  | true =>
    rw [hqt] at hgt
    clear hqt hft
    go_enter Try.func8, Try.ntmps8
    go_wp2_with (first | (go_at_call 16; (with_reducible refine (hgt _ HT.2).mono ?_); rintro e Wb ⟨rfl, hc⟩; (try have HT := HT.later hc); (try have HTV := Kd.R_below HTV hc); (try (have BU := blk_below BU hc; have HU := Tr.later HU hc)); (try have HMV := Kd.R_below HMV hc); (try have HFL := WTM.later HFL hc); have hbw := below_step hbw hc; (try obtain ⟨x0, x1, x2, x3, x4, x5, x6⟩ := HT.box); (try (have u0 := (blk_cell BU 0).trans rfl; have u1 := (blk_cell BU 1).trans rfl; have u2 := (blk_cell BU 2).trans rfl))) | (go_at_call 15; rw [HM.out]; refine (aliveM_calls _).mono ?_; rintro e Wb ⟨rfl, hc⟩; (try have HT := HT.later hc); (try have HTV := Kd.R_below HTV hc); (try (have BU := blk_below BU hc; have HU := Tr.later HU hc)); (try have HMV := Kd.R_below HMV hc); (try have HFL := WTM.later HFL hc); have hbw := below_step hbw hc; (try obtain ⟨x0, x1, x2, x3, x4, x5, x6⟩ := HT.box); (try (have u0 := (blk_cell BU 0).trans rfl; have u1 := (blk_cell BU 1).trans rfl; have u2 := (blk_cell BU 2).trans rfl))))
    go_ret
    exact ⟨rfl, hbw⟩
  | false =>
  rw [hqt] at hgt
  have hft := (hft hqt).1
  clear hqt
  have qk : ∀ W, RdM W t A c B d → Calls Try.prog 29 #[.agg #[.int .u8 t.f0, .string t.f1, .bool t.f2.f0, .string t.f2.f1, .slice A t.f2.f2.length c, .int .i64 t.f3, .slice B t.f4.length d]] W fun e w' => e = .returned (.int .i64 (chkM t)) ∧ Below W.heap.size W w' := fun W h => chkM_calls t hft A c B d W h
  by_cases hz : chkM t ≠ 0
  · have p1 : (chkM t != 0) = true := bne_iff_ne.mpr hz
    clear hz hft
    generalize chkM t = er at *
    go_enter Try.func8, Try.ntmps8
    go_wp2_with (first | (go_at_call 29; (with_reducible refine (qk _ HT.2).mono ?_); rintro e Wb ⟨rfl, hc⟩; (try have HT := HT.later hc); (try have HTV := Kd.R_below HTV hc); (try (have BU := blk_below BU hc; have HU := Tr.later HU hc)); (try have HMV := Kd.R_below HMV hc); (try have HFL := WTM.later HFL hc); have hbw := below_step hbw hc; (try obtain ⟨x0, x1, x2, x3, x4, x5, x6⟩ := HT.box); (try (have u0 := (blk_cell BU 0).trans rfl; have u1 := (blk_cell BU 1).trans rfl; have u2 := (blk_cell BU 2).trans rfl))) | (go_at_call 16; (with_reducible refine (hgt _ HT.2).mono ?_); rintro e Wb ⟨rfl, hc⟩; (try have HT := HT.later hc); (try have HTV := Kd.R_below HTV hc); (try (have BU := blk_below BU hc; have HU := Tr.later HU hc)); (try have HMV := Kd.R_below HMV hc); (try have HFL := WTM.later HFL hc); have hbw := below_step hbw hc; (try obtain ⟨x0, x1, x2, x3, x4, x5, x6⟩ := HT.box); (try (have u0 := (blk_cell BU 0).trans rfl; have u1 := (blk_cell BU 1).trans rfl; have u2 := (blk_cell BU 2).trans rfl))) | (go_at_call 15; rw [HM.out]; refine (aliveM_calls _).mono ?_; rintro e Wb ⟨rfl, hc⟩; (try have HT := HT.later hc); (try have HTV := Kd.R_below HTV hc); (try (have BU := blk_below BU hc; have HU := Tr.later HU hc)); (try have HMV := Kd.R_below HMV hc); (try have HFL := WTM.later HFL hc); have hbw := below_step hbw hc; (try obtain ⟨x0, x1, x2, x3, x4, x5, x6⟩ := HT.box); (try (have u0 := (blk_cell BU 0).trans rfl; have u1 := (blk_cell BU 1).trans rfl; have u2 := (blk_cell BU 2).trans rfl))))
    go_ret
    exact ⟨rfl, hbw⟩
  replace hz : chkM t = 0 := Decidable.not_not.mp hz
  obtain ⟨g1, g2⟩ := tyv_all hz
  have g3 := frM_un t
  have hcu := typM_chk hz
  have hsz := (chkM_ok hz).1
  have hll0 : (frM t).length ≤ 32000 := by have := frL_len (preM t) []; rw [preM_length] at this; simp only [List.length_nil, Nat.zero_add] at this; exact Nat.le_trans this hsz
  have hff := fr_fit hft
  have qtv : ∀ W, RdM W t A c B d → Calls Try.prog 24 #[.agg #[.int .u8 t.f0, .string t.f1, .bool t.f2.f0, .string t.f2.f1, .slice A t.f2.f2.length c, .int .i64 t.f3, .slice B t.f4.length d]] W (TyvPost W (tvM t, 0)) := by
    intro W h
    have h3 := tyvars_all_calls t hft A c B d W h
    rw [show tyvF t = (tvM t, 0) by unfold tyvF; rw [if_pos hz]] at h3
    exact h3
  have qf : ∀ W, RdM W t A c B d → Calls Try.prog 22 #[.agg #[.int .u8 t.f0, .string t.f1, .bool t.f2.f0, .string t.f2.f1, .slice A t.f2.f2.length c, .int .i64 t.f3, .slice B t.f4.length d]] W (FreePost W (frM t, 0)) := by
    intro W h
    have h3 := free_all_calls t hft A c B d W h
    rw [show freF t = (frM t, 0) by unfold freF; rw [if_pos hz]] at h3
    exact h3
  have qty : ∀ W, RdM W t A c B d → Calls Try.prog 20 #[.agg #[.int .u8 t.f0, .string t.f1, .bool t.f2.f0, .string t.f2.f1, .slice A t.f2.f2.length c, .int .i64 t.f3, .slice B t.f4.length d]] W fun e w' => ∃ rv, e = .returned (.tuple #[rv, .int .i64 0]) ∧ Tr w' rv (typM t) ∧ Below W.heap.size W w' := by
    intro W h
    have h3 := tyoM_tr t hft _ W ⟨A, c, B, d, rfl, h⟩
    rw [hz, show (tyoM t).1 = typM t by unfold tyoM; rw [if_pos hz]] at h3
    exact h3
  have qv : ∀ a W, Tr W a (typM t) → Calls Try.prog 53 #[a] W fun e w' => ∃ v, e = .returned (.tuple #[v, .int .i64 0]) ∧ StrR w' W.heap.size v (vsT (typM t)) ∧ Below W.heap.size W w' := fun a W h => vars_own (typM t) (chkB_fitA hcu) hcu a W h
  have hmu : (vsT (typM t)).length ≤ 1000000 := by have := varsL_len (preT (typM t)) []; rw [preT_length] at this; have := (chkB_sh hcu).2.1; unfold vsT; simp only [List.length_nil] at *; omega
  have htl : (tvM t).length ≤ 1000000000000 := by have := tvL_len (preM t) [] (fun x hx => (allM_pre t hft.1 x hx).2.2.1); rw [preM_length] at this; unfold tvM; simp only [List.length_nil] at this; omega
  rw [hz] at qk
  clear hz hcu hsz hft
  generalize typM t = u at *
  generalize frM t = l at *
  generalize tvM t = tv at *
  have HG1 := Aside0.mk g1
  have HG2 := Aside0.mk g2
  have HG3 := Aside0.mk g3
  have HFF := Aside0.mk hff
  have HLL := Lib.hid hll0
  have HMU := Lib.hid hmu
  have HTL := Lib.hid htl
  clear g1 g2 g3 hff hll0 hmu htl
  go_enter Try.func8, Try.ntmps8
  go_wp2_with (first | (go_at_call 22; (with_reducible refine (qf _ HT.2).mono ?_); rintro e Wf ⟨rv, rfl, hO, hc⟩; dsimp only at hO ⊢; obtain ⟨RL, rl, hv, hll, _⟩ := hO.reads; subst hv; have hbm := HMV; have hcf := hc; (try have HT := HT.later hc); (try have HTV := Kd.R_below HTV hc); (try (have BU := blk_below BU hc; have HU := Tr.later HU hc)); (try have HMV := Kd.R_below HMV hc); (try have HFL := WTM.later HFL hc); have hbw := below_step hbw hc; have HFL := hO; (try obtain ⟨x0, x1, x2, x3, x4, x5, x6⟩ := HT.box); (try (have u0 := (blk_cell BU 0).trans rfl; have u1 := (blk_cell BU 1).trans rfl; have u2 := (blk_cell BU 2).trans rfl))) | (go_at_call 53; (with_reducible refine (qv _ _ HU).mono ?_); rintro e Wm ⟨rv, rfl, hO, hc⟩; obtain ⟨RM, cm, hv, hml, _⟩ := Kd.R_reads hO; subst hv; have hTVb : ∀ k, (Value.slice RV tv.length cv).ownBlock = some k → k < (Wt.alloc (.cells #[.bool u.f0, .string u.f1, .slice Au u.f2.length cu] 24)).heap.size := fun k hk => (by obtain ⟨_, _, ho, _⟩ := HTV; exact own_lt ho k hk); have hbt := hbw.size; have hcv := hc; (try have HT := HT.later hc); (try have HTV := Kd.R_below HTV hc); (try (have BU := blk_below BU hc; have HU := Tr.later HU hc)); (try have HMV := Kd.R_below HMV hc); (try have HFL := WTM.later HFL hc); have hbw := below_step hbw hc; have HMV := hO; (try obtain ⟨x0, x1, x2, x3, x4, x5, x6⟩ := HT.box); (try (have u0 := (blk_cell BU 0).trans rfl; have u1 := (blk_cell BU 1).trans rfl; have u2 := (blk_cell BU 2).trans rfl))) | (go_at_call 20; (with_reducible refine (qty _ HT.2).mono ?_); rintro e Wt ⟨rv, rfl, hO, hc⟩; obtain ⟨Au, cu, rfl, hlu, hCu⟩ := hO; (try have HT := HT.later hc); (try have HTV := Kd.R_below HTV hc); (try (have BU := blk_below BU hc; have HU := Tr.later HU hc)); (try have HMV := Kd.R_below HMV hc); (try have HFL := WTM.later HFL hc); have hbw := below_step hbw hc; have hc := below_one (w := Wt) (.cells #[.bool u.f0, .string u.f1, .slice Au u.f2.length cu] 24); (try have HT := HT.later hc); (try have HTV := Kd.R_below HTV hc); (try (have BU := blk_below BU hc; have HU := Tr.later HU hc)); (try have HMV := Kd.R_below HMV hc); (try have HFL := WTM.later HFL hc); have hbw := below_step hbw hc; have BU := blk_new Wt (.cells #[.bool u.f0, .string u.f1, .slice Au u.f2.length cu] 24); have HU : Tr (Wt.alloc (.cells #[.bool u.f0, .string u.f1, .slice Au u.f2.length cu] 24)) (.agg #[.bool u.f0, .string u.f1, .slice Au u.f2.length cu]) u := Tr.later ⟨Au, cu, rfl, hlu, hCu⟩ hc; (try obtain ⟨x0, x1, x2, x3, x4, x5, x6⟩ := HT.box); (try (have u0 := (blk_cell BU 0).trans rfl; have u1 := (blk_cell BU 1).trans rfl; have u2 := (blk_cell BU 2).trans rfl))) | (go_at_call 24; (with_reducible refine (qtv _ HT.2).mono ?_); rintro e Wv ⟨rv, rfl, hO, hc⟩; dsimp only at hO ⊢; obtain ⟨RV, cv, hv, hvl, _⟩ := Kd.R_reads hO; subst hv; (try have HT := HT.later hc); (try have HTV := Kd.R_below HTV hc); (try (have BU := blk_below BU hc; have HU := Tr.later HU hc)); (try have HMV := Kd.R_below HMV hc); (try have HFL := WTM.later HFL hc); have hbw := below_step hbw hc; have HTV := hO; (try obtain ⟨x0, x1, x2, x3, x4, x5, x6⟩ := HT.box); (try (have u0 := (blk_cell BU 0).trans rfl; have u1 := (blk_cell BU 1).trans rfl; have u2 := (blk_cell BU 2).trans rfl))) | (go_at_call 29; (with_reducible refine (qk _ HT.2).mono ?_); rintro e Wb ⟨rfl, hc⟩; (try have HT := HT.later hc); (try have HTV := Kd.R_below HTV hc); (try (have BU := blk_below BU hc; have HU := Tr.later HU hc)); (try have HMV := Kd.R_below HMV hc); (try have HFL := WTM.later HFL hc); have hbw := below_step hbw hc; (try obtain ⟨x0, x1, x2, x3, x4, x5, x6⟩ := HT.box); (try (have u0 := (blk_cell BU 0).trans rfl; have u1 := (blk_cell BU 1).trans rfl; have u2 := (blk_cell BU 2).trans rfl))) | (go_at_call 16; (with_reducible refine (hgt _ HT.2).mono ?_); rintro e Wb ⟨rfl, hc⟩; (try have HT := HT.later hc); (try have HTV := Kd.R_below HTV hc); (try (have BU := blk_below BU hc; have HU := Tr.later HU hc)); (try have HMV := Kd.R_below HMV hc); (try have HFL := WTM.later HFL hc); have hbw := below_step hbw hc; (try obtain ⟨x0, x1, x2, x3, x4, x5, x6⟩ := HT.box); (try (have u0 := (blk_cell BU 0).trans rfl; have u1 := (blk_cell BU 1).trans rfl; have u2 := (blk_cell BU 2).trans rfl))) | (go_at_call 15; rw [HM.out]; refine (aliveM_calls _).mono ?_; rintro e Wb ⟨rfl, hc⟩; (try have HT := HT.later hc); (try have HTV := Kd.R_below HTV hc); (try (have BU := blk_below BU hc; have HU := Tr.later HU hc)); (try have HMV := Kd.R_below HMV hc); (try have HFL := WTM.later HFL hc); have hbw := below_step hbw hc; (try obtain ⟨x0, x1, x2, x3, x4, x5, x6⟩ := HT.box); (try (have u0 := (blk_cell BU 0).trans rfl; have u1 := (blk_cell BU 1).trans rfl; have u2 := (blk_cell BU 2).trans rfl))))
  clear qk qtv qf qty qv hgt
  have hbmf := Nat.le_trans hcv.size hcf.size
  have HTV0 := Aside0.mk HTV
  have HTVB := Aside0.mk hTVb
  have HBT := Lib.hid hbt
  have HMM := Aside0.mk HMV
  have HFF0 := Aside0.mk (HFL.mono (ok' := fun _ => True) (fun _ _ => trivial))
  have HBF := Aside0.mk hbw
  have HRV := Lib.hid hvl
  clear HTV hTVb hbt HMV HFL hbw hbm hcf hcv HT BU HU x0 x1 x2 x3 x4 x5 x6 u0 u1 u2 hc hvl hml hll hlu hCu
  generalize hbm2 : (Wt.alloc (.cells #[.bool u.f0, .string u.f1, .slice Au u.f2.length cu] 24)).heap.size = bm at *
  clear hbm2
  have HBMF := Lib.hid hbmf
  clear hbmf
  go_loopg [8, 12, 13, 14] l.length (fun gg v8 v12 _ _ wr => ∃ (kk : Nat) (mm : List ByteArray), kk ≤ l.length ∧ gg + kk = l.length ∧ v12 = .int .i64 (kk : Int) ∧ Aside0 (mm.length ≤ 1000000 + kk * 1000000) ∧ Aside0 (StrR wr bm v8 mm) ∧ Aside0 (∀ a, a ∈ mm → a ∈ tv) ∧ Aside0 (WTM wr (fun _ => True) (.slice RL l.length rl) l) ∧ Aside0 (Below bm Wf wr))
  case atStart => exact ⟨0, vsT u, by omega, by omega, rfl, ⟨by have := HMU.out; omega⟩, ⟨HMM.out⟩, ⟨HG1.out⟩, ⟨HFF0.out⟩, ⟨Below.refl _ _⟩⟩
  case round =>
    obtain ⟨kk, mm, hk1, hk2, rfl, HL0, HS, HIN, HW, HB⟩ := hrel
    clear HMM HFF0
    obtain ⟨RM', rm, rfl, hrm, hmC⟩ := Kd.R_reads HS.out
    obtain ⟨RL', rl', he, hrl, hlC⟩ := HW.out.reads
    injection he with he1 he2 he3
    subst he1 he3
    have hlm : (l.length : Int) ≤ 9223372036854775807 := by have := HLL.out; omega
    by_cases hkk : kk < l.length
    · have q0 : decide (kk < l.length) = true := decide_eq_true hkk
      obtain ⟨ad, A2, c2, A3, c3, e1, ⟨p0, p1, p2, p3, p4, p5, p6⟩, hE⟩ := tm_elem (Kd.V_mk (e := 27) (base := 0) hrl (Kd.C_F k27_heap hlC)) kk hkk
      rw [rdM l kk hkk] at p0 p1 p2 p3 p4 p5 p6 hE
      obtain ⟨hcx, hx1, hxv⟩ := HG2.out _ (List.getElem_mem hkk)
      have hfx := HFF.out _ (List.getElem_mem hkk)
      have hun := HG3.out kk hkk
      have hxl : (vsT l[kk].f2).length ≤ 1000000 := by have := varsL_len (preT l[kk].f2) []; rw [preT_length] at this; have := (chkB_sh hcx).2.1; unfold vsT; simp only [List.length_nil] at *; omega
      have htk : (l.take kk).length = kk := by rw [List.length_take]; omega
      have hfk : ∀ y, y ∈ l.take kk → fitM y := fun y hy => HFF.out y (List.mem_of_mem_take hy)
      generalize l[kk] = x at *
      have k1 : (x.f0 != 1) = false := bne_eq_false_iff_eq.mpr hx1
      have hvx := vars_own x.f2 (allM_top hfx.1).2.1 hcx _ wr (RdM.ty hE.rd)
      rw [show varsL (preT x.f2) [] = vsT x.f2 from rfl] at hvx
      have hl2 : (kk : Int) ≤ (rl : Int) := by omega
      have hl3 : (0 : Int) ≤ (kk : Int) := by omega
      have hCk := Kd.C_take hlC (m := kk) (by omega)
      have hhs : ∀ W, Below wr.heap.size wr W → Calls Try.prog 49 #[.slice RL kk rl, .agg #[.int .u8 x.f0, .string x.f1, .bool x.f2.f0, .string x.f2.f1, .slice A2 x.f2.f2.length c2, .int .i64 x.f3, .slice A3 x.f4.length c3]] W fun e w' => e = .returned (.bool false) ∧ Below W.heap.size W w' := by
            intro W hW
            have h3 := rhasM_calls (l.take kk) x hfk RL rl A2 c2 A3 c3 W (Kd.C_below hCk hW) (by rw [htk]; omega) (hE.rd.later hW)
            rw [htk, hun] at h3
            exact h3
      have HXV := Aside0.mk hxv
      have HXL := Lib.hid hxl
      have hvm : ∀ k, (Value.slice RM' mm.length rm).ownBlock = some k → bm ≤ k := fun k hk => by
        obtain ⟨_, _, ho, _⟩ := HS.out
        exact own_base ho k hk
      clear hcx hx1 hxv hfx hun hxl htk hfk hCk hE hlC
      cases e1
      go_wp2_with (go_at_call 53; (with_reducible refine hvx.mono ?_); rintro e w1 ⟨vm, rfl, hO, hb1⟩; obtain ⟨RX, cx, hvm2, hxl2, hxC⟩ := Kd.R_reads hO; subst hvm2)
      have hD := below_drew1 (Below.refl w1.heap.size w1)
      have hK0 : TvS w1 kk x ad A2 c2 A3 c3 w1.drew := TvS.step ⟨Below.refl _ _, pw_cell_below hb1 p0, pw_cell_below hb1 p1, pw_cell_below hb1 p2, pw_cell_below hb1 p3, pw_cell_below hb1 p4, pw_cell_below hb1 p5, pw_cell_below hb1 p6⟩ hD
      have hcall : ∀ W, TvS w1 kk x ad A2 c2 A3 c3 W → Calls Try.prog 49 #[.slice (some ad) kk rl, .agg #[.int .u8 x.f0, .string x.f1, .bool x.f2.f0, .string x.f2.f1, .slice A2 x.f2.f2.length c2, .int .i64 x.f3, .slice A3 x.f4.length c3]] W fun e w' => e = .returned (.bool false) ∧ TvS w1 kk x ad A2 c2 A3 c3 w' := fun W hW => (hhs W (hb1.trans (hW.1.mono hb1.size))).mono (fun _ _ h => And.intro h.1 (hW.step h.2))
      clear hvx hhs p0 p1 p2 p3 p4 p5 p6
      go_region_held3 (fun W => TvS w1 kk x ad A2 c2 A3 c3 W)
        (first | (with_reducible exact hK0) | (with_reducible assumption))
        (first | (go_at_call 49; (with_reducible refine (hcall _ (by with_reducible assumption)).mono ?_); rintro e W1 ⟨rfl, hN⟩))
      have hb2 := hb1.trans (hN.1.mono hb1.size)
      have hxC2 := Kd.C_below hxC hN.1
      have hS2 := Kd.R_below HS.out hb2
      have hW2 := HW.out.later hb2
      have hB2 := HB.out.trans (hb2.mono (Nat.le_trans HBMF.out HB.out.size))
      have hbm1 : bm ≤ W1.heap.size := Nat.le_trans HBMF.out (Nat.le_trans HB.out.size hb2.size)
      clear hcall hK0 hD hxC hO hN hb1
      go_wp2_with ((with_reducible refine gate_dst (N := 100) rfl ?_); refine lock5_ ?_)
      unfold Lock5
      refine Kd.R_append_row Value.string ByteArray.empty (w0 := W1) bm (by rfl) (.tmp 98) (.tmp 99) 43 9 (.string ⟨#[]⟩) 16 (by rfl) Try.underlying43 info_str (by rfl) (by decide) (.slice RM' mm.length rm) mm (vsT x.f2) RX (vsT x.f2).length cx (fun _ => True) (by rfl) (by rfl) (fun _ _ => trivial) hS2 hxC2 (Below.refl _ _) hbm1 (by have := HL0.out; have := HXL.out; have := HLL.out; omega) ?_
      intro v3 W3 hR3 hB3 hg3 hat3
      obtain ⟨RN, rn, hv3, _, _⟩ := Kd.R_reads hR3
      rw [List.length_append] at hv3
      subst hv3
      have HW3 := Aside0.mk (hW2.strs hg3 (StrR.typed hS2))
      have HB3 := Aside0.mk (hB2.trans hB3)
      have HR3 := Aside0.mk hR3
      clear hR3 hB3 hg3 hat3 hS2 hW2 hB2 hxC2
      go_wp2_with fail
      go_roundg (l.length - kk - 1)
      case measure => omega
      case rel => exact ⟨kk + 1, mm ++ vsT x.f2, by omega, by omega, by simp <;> exact w64s (by have := HLL.out; omega), ⟨by rw [List.length_append]; have := HL0.out; have := HXL.out; omega⟩, ⟨by have h := HR3.out; rw [List.length_append] at *; exact h⟩, ⟨fun a ha => (List.mem_append.1 ha).elim (HIN.out a) (HXV.out a)⟩, ⟨HW3.out⟩, ⟨HB3.out⟩⟩
    · have q0 : decide (kk < l.length) = false := decide_eq_false hkk
      have hTR := Kd.R_step (Kd.R_tight (by rfl) HTV0.out) (fun k hk hlt => HB.out.block k (HTVB.out k hk.symm))
      obtain ⟨RV', rv', he, hrv, hVC⟩ := Kd.R_reads hTR
      injection he with he1 he2 he3
      subst he1 he3
      have HIN' := HIN
      have HLM := Lib.hid HL0.out
      have hbw : Below w.heap.size w wr := HBF.out.trans (HB.out.mono HBT.out)
      have hml : mm.length ≤ 1000000000000 := by have := HL0.out; have := HLL.out; omega
      have HVC := Aside0.mk hVC
      have HMC := Aside0.mk hmC
      have HBW := Aside0.mk hbw
      have HTL2 := HTL
      clear hTR hVC hmC hbw HLM hlC hrl
      go_wp2_with fail
      go_loopg [15] mm.length (fun gg v15 ws => ∃ jj : Nat, jj ≤ mm.length ∧ gg + jj = mm.length ∧ v15 = .int .i64 (jj : Int) ∧ Aside0 (Below wr.heap.size wr ws))
      case atStart => exact ⟨0, by omega, by omega, rfl, ⟨Below.refl _ _⟩⟩
      case round =>
        obtain ⟨jj, hj1, hj2, rfl, HBS⟩ := hrel
        by_cases hjj : jj < mm.length
        · have q1 : decide (jj < mm.length) = true := decide_eq_true hjj
          obtain ⟨ad, e1, hx⟩ := Kd.at_string (Kd.C_below HMC.out HBS.out) (jj : Int) (by omega) (by omega)
          cases e1
          rw [rdOf_get mm jj hjj, Int.toNat_natCast] at hx
          have hin : inS tv mm[jj] = true := (inS_iff _ _).2 (HIN'.out _ (List.getElem_mem hjj))
          obtain ⟨ki, hki⟩ := (in_ev tv mm[jj] (by have := HTL2.out; omega)).at
          rw [hin] at hki
          generalize mm[jj] = s at *
          have hci := sequentref01_In.calls ki RV cv tv s true wr (Kd.C_below HVC.out HBS.out) hrv hki
          clear hin hki
          go_wp2_with (go_at_call 54; (with_reducible refine hci.mono ?_); rintro e W2 ⟨rfl, hd⟩)
          have HB4 := Aside0.mk (below_step HBS.out hd.below)
          go_roundg (mm.length - jj - 1)
          case measure => omega
          case rel => exact ⟨jj + 1, by omega, by omega, by simp <;> exact w64s (by omega), ⟨HB4.out⟩⟩
        · have q1 : decide (jj < mm.length) = false := decide_eq_false hjj
          go_wp2_with fail
          go_ret
          exact ⟨rfl, below_step HBW.out HBS.out⟩
end Go.Proofs.Ytecplbgdalchdaa.Q
