/- Proved here: parts of the proof of a given statement (HRowTermsHints): contracts of the functions that it reaches, what they answer, and in the last text the statement itself. Conditions: those that each theorem names. -/
import Derived.Test.YtecplbgdalchdaaZTHX16
import Derived.Test.YtecplbgdalchdaaZTHX10
import Derived.Test.YtecplbgdalchdaaZTHX7
import Derived.Deep.AppendLies
import Derived.Deep.RegionHeld3
import Derived.Deep.Cut
import Derived.Test.YtecplbgdalchdaaZTHX14
import Derived.Test.YtecplbgdalchdaaZTHX13
import Derived.Test.YtecplbgdalchdaaZTHX15
import Derived.Test.YtecplbgdalchdaaZTHX12
import Derived.Test.YtecplbgdalchdaaZTHX11
/- Proved here: the contract of the walker's note. Conditions: those that each theorem names. -/
namespace Go.Proofs.Ytecplbgdalchdaa.Q
open Go.RowKit Go.Shelf Go.Proofs.YtecplbgdalchdaaW.PrintWords Go.Proofs.YtecplbgdalchdaaW.PrintMore
set_option linter.unusedVariables false
set_option linter.unusedSimpArgs false
attribute [local go_sem] Oper.semAt_some


abbrev ntO0 : Oper := { dst := some 20, op := Op.move (Operand.tmp 0), type := 180, pos := "terms.go:113", after := #[], guard := none }
abbrev ntO1 : Oper := { dst := some 21, op := Op.nilCheck (Operand.tmp 20), type := 0, pos := "terms.go:113", after := #[{ on := 0, ground := Ground.data }], guard := none }
abbrev ntO2 : Oper := { dst := some 22, op := Op.fieldAddr 126 (Operand.tmp 21) 0, type := 0, pos := "terms.go:113", after := #[{ on := 1, ground := Ground.data }], guard := none }
abbrev ntO3 : Oper := { dst := some 23, op := Op.load 25 (Operand.tmp 22), type := 25, pos := "terms.go:113", after := #[{ on := 2, ground := Ground.data }], guard := none }
abbrev ntO4 : Oper := { dst := some 24, op := Op.load 27 (Operand.tmp 3), type := 27, pos := "terms.go:113", after := #[], guard := none }
abbrev ntO5 : Oper := { dst := some 25, op := Op.call { callee := Callee.value (Operand.func 28), args := #[Operand.tmp 24], argTypes := #[27] }, type := 27, pos := "terms.go:113", after := #[{ on := 4, ground := Ground.data }], guard := none }
abbrev ntO6 : Oper := { dst := some 26, op := Op.call { callee := Callee.builtin Builtin.len, args := #[Operand.tmp 23], argTypes := #[25] }, type := 3, pos := "terms.go:113", after := #[{ on := 3, ground := Ground.data }], guard := none }
abbrev ntO7 : Oper := { dst := some 27, op := Op.buildSlice 25 1 #[(0, Operand.const (Value.agg #[Value.int IntKind.u8 0, Value.string { data := #[] }, Value.bool false, Value.string { data := #[] }, Value.slice none 0 0, Value.int IntKind.i64 0, Value.slice none 0 0]))], type := 25, pos := "terms.go:113", after := #[], guard := none }
abbrev ntO8 : Oper := { dst := some 28, op := Op.call { callee := Callee.builtin Builtin.append, args := #[Operand.tmp 23, Operand.tmp 27], argTypes := #[25, 25] }, type := 25, pos := "terms.go:113", after := #[{ on := 3, ground := Ground.data }, { on := 7, ground := Ground.data }, { on := 5, ground := Ground.chain }, { on := 0, ground := Ground.phase }, { on := 1, ground := Ground.phase }, { on := 2, ground := Ground.phase }, { on := 3, ground := Ground.phase }, { on := 4, ground := Ground.phase }, { on := 5, ground := Ground.phase }, { on := 6, ground := Ground.phase }, { on := 7, ground := Ground.phase }], guard := none }
abbrev ntO9 : Oper := { dst := some 29, op := Op.indexAddr 25 (Operand.tmp 28) (Operand.tmp 26), type := 0, pos := "terms.go:113", after := #[{ on := 8, ground := Ground.data }, { on := 6, ground := Ground.data }, { on := 0, ground := Ground.phase }, { on := 1, ground := Ground.phase }, { on := 2, ground := Ground.phase }, { on := 3, ground := Ground.phase }, { on := 4, ground := Ground.phase }, { on := 5, ground := Ground.phase }, { on := 6, ground := Ground.phase }, { on := 7, ground := Ground.phase }, { on := 8, ground := Ground.phase }, { on := 13, ground := Ground.gcOnly Departure.appendInPlace }], guard := none }
abbrev ntO10 : Oper := { dst := none, op := Op.store 27 (Operand.tmp 29) (Operand.tmp 25), type := 0, pos := "terms.go:113", after := #[{ on := 9, ground := Ground.data }, { on := 5, ground := Ground.data }, { on := 8, ground := Ground.chain }, { on := 0, ground := Ground.phase }, { on := 1, ground := Ground.phase }, { on := 2, ground := Ground.phase }, { on := 3, ground := Ground.phase }, { on := 4, ground := Ground.phase }, { on := 5, ground := Ground.phase }, { on := 6, ground := Ground.phase }, { on := 7, ground := Ground.phase }, { on := 8, ground := Ground.phase }, { on := 13, ground := Ground.gcOnly Departure.appendInPlace }], guard := none }
abbrev ntO11 : Oper := { dst := some 30, op := Op.nilCheck (Operand.tmp 20), type := 0, pos := "terms.go:113", after := #[{ on := 0, ground := Ground.data }, { on := 0, ground := Ground.phase }, { on := 1, ground := Ground.phase }, { on := 2, ground := Ground.phase }, { on := 3, ground := Ground.phase }, { on := 4, ground := Ground.phase }, { on := 5, ground := Ground.phase }, { on := 6, ground := Ground.phase }, { on := 7, ground := Ground.phase }, { on := 8, ground := Ground.phase }, { on := 9, ground := Ground.textOnly Departure.appendInPlace }, { on := 10, ground := Ground.textOnly Departure.appendInPlace }], guard := none }
abbrev ntO12 : Oper := { dst := some 31, op := Op.fieldAddr 126 (Operand.tmp 30) 0, type := 0, pos := "terms.go:113", after := #[{ on := 11, ground := Ground.data }, { on := 0, ground := Ground.phase }, { on := 1, ground := Ground.phase }, { on := 2, ground := Ground.phase }, { on := 3, ground := Ground.phase }, { on := 4, ground := Ground.phase }, { on := 5, ground := Ground.phase }, { on := 6, ground := Ground.phase }, { on := 7, ground := Ground.phase }, { on := 8, ground := Ground.phase }, { on := 9, ground := Ground.textOnly Departure.appendInPlace }, { on := 10, ground := Ground.textOnly Departure.appendInPlace }], guard := none }
abbrev ntO13 : Oper := { dst := none, op := Op.store 25 (Operand.tmp 31) (Operand.tmp 28), type := 0, pos := "terms.go:113", after := #[{ on := 12, ground := Ground.data }, { on := 8, ground := Ground.data }, { on := 8, ground := Ground.chain }, { on := 10, ground := Ground.textOnly Departure.appendInPlace }, { on := 0, ground := Ground.phase }, { on := 1, ground := Ground.phase }, { on := 2, ground := Ground.phase }, { on := 3, ground := Ground.phase }, { on := 4, ground := Ground.phase }, { on := 5, ground := Ground.phase }, { on := 6, ground := Ground.phase }, { on := 7, ground := Ground.phase }, { on := 8, ground := Ground.phase }, { on := 9, ground := Ground.textOnly Departure.appendInPlace }, { on := 10, ground := Ground.textOnly Departure.appendInPlace }], guard := none }
def Lock4 (p : Prop) : Prop := p
theorem lock4_ {p : Prop} (h : Lock4 p) : p := h
theorem leafy_iff (k : Int) : leafy k = true ↔ (k = 1 ∨ k = 2 ∨ k = 5) := by unfold leafy; simp [or_assoc]
theorem addNs_take (l ts : List ByteArray) (j : Nat) (h : j < l.length) : addNs (l.take (j + 1)) ts = addN (addNs (l.take j) ts) l[j] := by
  rw [List.take_succ_eq_append_getElem h]
  exact List.foldl_append ..
theorem addNs_len : ∀ (l ts : List ByteArray), (addNs l ts).length ≤ ts.length + l.length
  | [], ts => by simp [addNs]
  | a :: l, ts => by
    have h := addNs_len l (addN ts a)
    have h2 : (addN ts a).length ≤ ts.length + 1 := by unfold addN; split <;> simp
    simp only [addNs, List.foldl_cons, List.length_cons] at h ⊢
    omega
theorem rdOf_get (l : List ByteArray) (j : Nat) (h : j < l.length) : rdOf ByteArray.empty l (j : Int) = l[j] := by
  unfold rdOf
  simp only [Int.toNat_natCast]
  rw [List.getD_eq_getElem?_getD, List.getElem?_eq_getElem h]
  rfl
theorem StrR.kept {W0 W4 wr : World} {g : Nat} {v : Value} {l : List ByteArray} {base : Nat} {vs : List S27} {ts : List ByteArray} (hg : g < W0.heap.size) (hS : NtS base g vs ts W0) (hb : Below W0.heap.size W0 W4) (h : StrR W4 W0.heap.size v l) (hk : NtK g W4 wr) : StrR wr W0.heap.size v l := by
  have hvb : ∀ k, v.ownBlock = some k → W0.heap.size ≤ k := fun k hk => by
    obtain ⟨_, _, ho, _⟩ := h
    exact own_base ho k hk
  exact Kd.R_mono (Kd.R_step (Kd.R_tight (by rfl) h) (fun k he hlt => hk.keep k hlt (by have := hvb k he.symm; omega) (hS.not_row hb (hvb k he.symm)))) (fun _ _ => trivial)
/-- The type variables of a type, in a row of the call's own. -/
theorem vars_own (t : S24) (hf : fit t) (hc : chkB t = true) (a : Value) (w : World) (ha : Tr w a t) : Calls Try.prog 53 #[a] w fun e w' => ∃ v, e = .returned (.tuple #[v, .int .i64 0]) ∧ StrR w' w.heap.size v (varsL (preT t) []) ∧ Below w.heap.size w w' := by
  obtain ⟨A, c, rfl, hl, hA⟩ := ha
  obtain ⟨k, hk⟩ := (vars_ev t hf).at
  have hv : varsF t = (varsL (preT t) [], 0) := by unfold varsF; rw [if_pos hc]
  rw [hv] at hk
  exact types_Vars.calls k t.f0 t.f1 A c t.f2 _ _ w hA hl hk
set_option maxHeartbeats 8000000 in
set_option maxRecDepth 100000 in
theorem note_calls (x : S27) (hf : fitM x) (hk : (x.f0 = 3 ∨ x.f0 = 4) ∨ ((x.f0 = 1 ∨ x.f0 = 2 ∨ x.f0 = 5) ∧ chkB x.f2 = true)) (base g : Nat) (vs : List S27) (ts : List ByteArray) (A : Option Addr) (c : Nat) (B : Option Addr) (d : Nat) (w : World) (hgb : g < base) (hbs : base ≤ w.heap.size) (hS : NtS base g vs ts w) (hX : RdF w (fun k => k < g) x A c B d) (hvl : vs.length ≤ 1000000) (htl : ts.length + szT x.f2 ≤ 1000000000000) :
    Calls Try.prog 101 #[.pointer (some ⟨g, 0, none⟩), .agg #[.int .u8 x.f0, .string x.f1, .bool x.f2.f0, .string x.f2.f1, .slice A x.f2.f2.length c, .int .i64 x.f3, .slice B x.f4.length d]] w fun e w' => e = .returned (.tuple #[]) ∧ NtS base g (frStep vs x) (tvStep ts x) w' ∧ NtK g w w' := by
  have hb0 := below_one (w := w) (.cells #[.int .u8 x.f0, .string x.f1, .bool x.f2.f0, .string x.f2.f1, .slice A x.f2.f2.length c, .int .i64 x.f3, .slice B x.f4.length d] 27)
  have BX := blk_new w (.cells #[.int .u8 x.f0, .string x.f1, .bool x.f2.f0, .string x.f2.f1, .slice A x.f2.f2.length c, .int .i64 x.f3, .slice B x.f4.length d] 27)
  have hS0 := hS.later hb0
  have hgw : g < w.heap.size := by omega
  have hK0 := NtK.of_below hgw hb0
  have hX0 := hX.later hb0
  have hnr : ∀ W, Below (w.alloc (.cells #[.int .u8 x.f0, .string x.f1, .bool x.f2.f0, .string x.f2.f1, .slice A x.f2.f2.length c, .int .i64 x.f3, .slice B x.f4.length d] 27)).heap.size (w.alloc (.cells #[.int .u8 x.f0, .string x.f1, .bool x.f2.f0, .string x.f2.f1, .slice A x.f2.f2.length c, .int .i64 x.f3, .slice B x.f4.length d] 27)) W → ¬ NtR W g w.heap.size := fun W hW => hS.not_row (below_step hb0 hW) (Nat.le_refl _)
  have hXW := fun W (hW : NtK g w W) => hX.step (fun k hk _ => hW.below.block k hk)
  have hn1 : ∀ l : List ByteArray, tvStep ts x = (if leafy x.f0 = true then varsL (preT x.f2) ts else ts) := fun _ => rfl
  have hfr : frStep vs x = if x.f0 = 1 then (if hasM vs x = true then vs else vs ++ [x]) else vs := rfl
  obtain ⟨v, u, hB, hV, hU⟩ := id hS0
  obtain ⟨RA, rc, rfl, hrl, hCv⟩ := hV.reads
  obtain ⟨RB, rd, rfl, hul, hCu⟩ := Kd.R_reads hU
  obtain ⟨x0, x1, x2, x3, x4, x5, x6⟩ := box7 BX
  have w0 := (blk_cell hB 0).trans rfl
  have w1 := (blk_cell hB 1).trans rfl
  rcases hk with hk | ⟨hk, hcB⟩
  · have hl : leafy x.f0 = false := by rw [Bool.eq_false_iff]; intro h; have := (leafy_iff _).1 h; omega
    have htv : tvStep ts x = ts := by unfold tvStep; rw [hl]; rfl
    rw [hfr, htv, if_neg (show ¬ x.f0 = 1 by omega)]
    have k1 : (x.f0 == 1) = false := beq_eq_false_iff_ne.mpr (by omega)
    have hk' : ((x.f0 == 4) = true) ∨ ((x.f0 == 4) = false ∧ (x.f0 == 3) = true) := by
      rcases hk with h | h
      · exact .inr ⟨beq_eq_false_iff_ne.mpr (by omega), by rw [h]; rfl⟩
      · exact .inl (by rw [h]; rfl)
    have HS := Aside0.mk hS0
    have HK := Aside0.mk hK0
    clear hS hS0 hK0 hX hX0 hXW hn1 hfr hV hU hf hnr hk hl htv hCv hCu hb0
    rcases hk' with k4 | ⟨k4, k3⟩
    all_goals
      go_enter Try.func101, Try.ntmps101
      go_wp2_with fail
      refine bodyPost_ret (v := .tuple #[]) (by simp [results, Try.results101, go_sem]) rfl ?_
      exact ⟨rfl, HS.out, HK.out⟩
  have hl : leafy x.f0 = true := (leafy_iff _).2 hk
  have htv : tvStep ts x = addNs (varsL (preT x.f2) []) ts := by unfold tvStep; rw [if_pos hl, addNs_vars]
  have k4 : (x.f0 == 4) = false := beq_eq_false_iff_ne.mpr (by omega)
  have k3 : (x.f0 == 3) = false := beq_eq_false_iff_ne.mpr (by omega)
  have hft : fit x.f2 := (allM_top hf.1).2.1
  have evr := fun W (hW : NtK g w W) => vars_own x.f2 hft hcB _ W (RdM.ty (hXW W hW).rd)
  have hvl2 : (varsL (preT x.f2) []).length ≤ szT x.f2 := by have := varsL_len (preT x.f2) []; rw [preT_length] at this; simpa using this
  rw [htv]
  have HTL := Lib.hid htl
  have HLL := Lib.hid hvl2
  by_cases h1 : x.f0 = 1
  · have k1 : (x.f0 == 1) = true := by rw [h1]; rfl
    have hsc := fun W (hW : Below (w.alloc (.cells #[.int .u8 x.f0, .string x.f1, .bool x.f2.f0, .string x.f2.f1, .slice A x.f2.f2.length c, .int .i64 x.f3, .slice B x.f4.length d] 27)).heap.size (w.alloc (.cells #[.int .u8 x.f0, .string x.f1, .bool x.f2.f0, .string x.f2.f1, .slice A x.f2.f2.length c, .int .i64 x.f3, .slice B x.f4.length d] 27)) W) => hasM_calls vs x RA rc A c B d w.heap.size W (Kd.C_below hCv hW) (blk_below BX hW) (hX0.rd.later hW)
    have hgW0 : g < (w.alloc (.cells #[.int .u8 x.f0, .string x.f1, .bool x.f2.f0, .string x.f2.f1, .slice A x.f2.f2.length c, .int .i64 x.f3, .slice B x.f4.length d] 27)).heap.size := hB.lt
    have etw := fun W (hW : NtK g w W) => twinM_calls _ x A c B d W (Nat.le_refl _) hf (hXW W hW).rd
    have HV := Aside0.mk hV
    have HU := Aside0.mk hU
    have HK0 := Aside0.mk hK0
    have HS0 := Aside0.mk hS0
    have HVL := Lib.hid hvl
    clear hS hS0 hK0 hX hX0 hXW hn1 hV hU hk hl htv hCv hCu hft hcB hf hb0 hvl htl hvl2
    cases hh : hasM vs x with
    | true =>
      rw [hh] at hsc
      rw [hfr, if_pos h1, if_pos hh]
      clear etw hfr hh h1 hnr
      go_enter Try.func101, Try.ntmps101
      go_wp2_with (first | (go_at_call 144; (with_reducible refine (hsc _ (Below.refl _ _)).mono ?_); rintro e W1 ⟨rfl, hb1⟩; have HBX1 := Aside0.mk (blk_below BX hb1); have HBW1 := Aside0.mk (show NtB W1 g _ _ from blk_below hB hb1); obtain ⟨x0, x1, x2, x3, x4, x5, x6⟩ := box7 HBX1.out; have w0 := (blk_cell HBW1.out 0).trans rfl; have w1 := (blk_cell HBW1.out 1).trans rfl; have HS2 := Aside0.mk (HS0.out.later hb1); have HK2 := Aside0.mk (HK0.out.trans (NtK.of_below hgW0 hb1))) | (go_at_call 53; (with_reducible refine (evr _ HK2.out).mono ?_); rintro e W4 ⟨v4, rfl, hL, hb4⟩; obtain ⟨RL, rl, hv4, hll, hCL⟩ := Kd.R_reads hL; subst hv4))
      have HS3 := HS2.out
      have hgW := Nat.lt_of_lt_of_le hgw HK2.out.size
      have HS4 := HS3.later hb4
      have HK4 := HK2.out.trans (NtK.of_below hgW hb4)
      have HLR := Aside0.mk (fun wr (hk : NtK g W4 wr) => StrR.kept hgW HS3 hb4 hL hk)
      clear hCL HS3 hL HS2 HK2
      generalize hLq : varsL (preT x.f2) [] = L at *
      have HLQ := Lib.hid hLq
      clear hLq
      go_loopg [7, 48] L.length (fun gg _ v48 wr => ∃ kk : Nat, kk ≤ L.length ∧ gg + kk = L.length ∧ v48 = .int .i64 (kk : Int) ∧ Aside0 (NtS base g (vs) (addNs (L.take kk) ts) wr) ∧ Aside0 (NtK g W4 wr))
      case atStart => exact ⟨0, by omega, by omega, rfl, ⟨HS4⟩, ⟨⟨Below.refl _ _, fun _ _ _ _ => rfl, fun _ h => .inl h⟩⟩⟩
      case round =>
        obtain ⟨kk, hk1, hk2, rfl, HSr, HKr⟩ := hrel
        clear HS4
        obtain ⟨v, u, hBr, hVr, hUr⟩ := id HSr.out
        obtain ⟨RA', rc', rfl, _, _⟩ := hVr.reads
        obtain ⟨RB', rd', rfl, hul', hCu'⟩ := Kd.R_reads hUr
        have w0 := (blk_cell hBr 0).trans rfl
        have w1 := (blk_cell hBr 1).trans rfl
        have hgl := hBr.lt
        by_cases hkk : kk < L.length
        · have q0 : decide (kk < L.length) = true := decide_eq_true hkk
          obtain ⟨RL2, rl2, he2, _, hCL⟩ := Kd.R_reads (HLR.out wr HKr.out)
          injection he2 with he2 _ he3
          subst he2 he3
          obtain ⟨ad, e1, hx⟩ := Kd.at_string hCL (kk : Int) (by omega) (by omega)
          cases e1
          rw [rdOf_get L kk hkk, Int.toNat_natCast] at hx
          have hnx := addNs_take L ts kk hkk
          have hcl := addNs_len (L.take kk) ts
          rw [List.length_take] at hcl
          have HNX := Lib.hid hnx
          have hcf := contains_f (addNs (L.take kk) ts) L[kk] (by have := HTL.out; have := HLL.out; omega)
          have HCL := Lib.hid hcl
          clear hnx hcl hCL
          generalize L[kk] = s at *
          generalize addNs (L.take kk) ts = cur at *
          have hct := fun W (hW : Below wr.heap.size wr W) => slices_Contains_string_string.calls _ RB' rd' cur s _ W (Kd.C_below hCu' hW) hul' hcf
          clear hCu' hcf
          have hbr := Below.refl wr.heap.size wr
          cases hin : inS cur s with
          | true =>
            rw [hin] at hct
            have hadd : addN cur s = cur := by unfold addN; rw [if_pos hin]
            have HADD := Lib.hid hadd
            clear hadd hin
            go_wp2_with (go_at_call 117; (with_reducible refine (hct _ hbr).mono ?_); rintro e W5 ⟨rfl, hd⟩; have hb5 := hd.below)
            go_roundg (L.length - kk - 1)
            case measure => omega
            case rel => exact ⟨kk + 1, by omega, by omega, by simp <;> exact w64s (by have := HTL.out; have := HLL.out; omega), ⟨by rw [HNX.out, HADD.out]; exact HSr.out.later hb5⟩, ⟨HKr.out.trans (NtK.of_below hgl hb5)⟩⟩
          | false =>
            rw [hin] at hct
            have hadd : addN cur s = cur ++ [s] := by unfold addN; rw [if_neg (by rw [hin]; simp)]
            have HADD := Lib.hid hadd
            clear hadd hin
            go_wp2_with (first | ((with_reducible refine gate_dst (N := 66) rfl ?_); refine lock4_ ?_) | (go_at_call 117; (with_reducible refine (hct _ hbr).mono ?_); rintro e W5 ⟨rfl, hd⟩; have hb5 := hd.below; have hB5 := blk_below hBr hb5; have w0 := (blk_cell hB5 0).trans rfl; have w1 := (blk_cell hB5 1).trans rfl))
            unfold Lock4
            have hS5 := HSr.out.later hb5
            have hbs5 : base ≤ W5.heap.size := Nat.le_trans hbs (Nat.le_trans (HK4.trans HKr.out).size hb5.size)
            refine Kd.R_append Kd.string (w0 := W5) base (by rfl) (.tmp 63) (.tmp 65) 43 9 (.string ⟨#[]⟩) 16 (by rfl) Try.underlying43 info_str (by rfl) (by decide) (by decide) (.slice RB' cur.length rd') cur s [.string s] (fun _ => True) (fun _ => False) (by rfl) (by rfl) rfl (fun _ h => h.elim) (fun _ _ => trivial) (Kd.R_below hUr hb5) (Below.refl _ _) hbs5 (by have := HTL.out; have := HCL.out; have := HLL.out; omega) ?_
            intro v2 W6 hR6 hB6 hg6 hat6
            obtain ⟨RC, re, hv2, _, _⟩ := Kd.R_reads hR6
            rw [show (cur ++ [s]).length = cur.length + 1 by simp] at hv2
            subst hv2
            have hfin := Nt_str hgb hB5 (hVr.later hb5) (Kd.R_below hUr hb5) hR6 hB6 hg6 hat6
            have HFIN := Aside0.mk hfin
            have hB6' : W6.heap[g]? = some (.cells #[.slice RA' (vs).length rc', .slice RB' cur.length rd'] 126 (0, 0)) := (hg6.block g (blk_lt hB5) (fun e => by obtain ⟨_, _, ho, _⟩ := Kd.R_below hUr hb5; have := own_base ho g e.symm; omega)).trans hB5
            clear hfin hR6 hB6 hg6 hat6 w0 w1
            have w0 := (blk_cell hB6' 0).trans rfl
            have w1 := (blk_cell hB6' 1).trans rfl
            have r1 := blk_frozen hB6' 1
            clear hct
            go_wp2_with fail
            go_roundg (L.length - kk - 1)
            case measure => omega
            case rel => exact ⟨kk + 1, by omega, by omega, by simp <;> exact w64s (by have := HTL.out; have := HLL.out; omega), ⟨by rw [HNX.out, HADD.out]; exact HFIN.out.1⟩, ⟨(HKr.out.trans (NtK.of_below hgl hb5)).trans HFIN.out.2⟩⟩
        · have q0 : decide (kk < L.length) = false := decide_eq_false hkk
          obtain rfl : kk = L.length := by omega
          have HSE := HSr.out
          rw [List.take_length] at HSE
          have HSEA := Aside0.mk HSE
          clear HSE hkk
          go_wp2_with fail
          refine bodyPost_end (v := .tuple #[]) (by simp [results, Try.results101, go_sem]) rfl ?_
          exact ⟨rfl, by rw [HLQ.out]; exact HSEA.out, HK4.trans HKr.out⟩
    | false =>
      rw [hh] at hsc
      rw [hfr, if_pos h1, if_neg (by rw [hh]; simp)]
      clear hfr hh h1
      go_enter Try.func101, Try.ntmps101
      go_upto_if 19 with (go_at_call 144; (with_reducible refine (hsc _ (Below.refl _ _)).mono ?_); rintro e W1 ⟨rfl, hb1⟩; have HBX1 := Aside0.mk (blk_below BX hb1); have HBW1 := Aside0.mk (show NtB W1 g _ _ from blk_below hB hb1); obtain ⟨x0, x1, x2, x3, x4, x5, x6⟩ := box7 HBX1.out; have w0 := (blk_cell HBW1.out 0).trans rfl; have w1 := (blk_cell HBW1.out 1).trans rfl; have HS2 := Aside0.mk (HS0.out.later hb1); have HK2 := Aside0.mk (HK0.out.trans (NtK.of_below hgW0 hb1)))
      go_cut [] from 8 (fun wc => Aside0 (NtS base g (vs ++ [x]) ts wc) ∧ Aside0 (NtK g w wc) ∧ BxM wc w.heap.size x A c B d)
      case rest =>
        clear HS2 HK2 x0 x1 x2 x3 x4 x5 x6 w0 w1 hsc etw HBX1 HBW1
        obtain ⟨HS2, HK2, x0, x1, x2, x3, x4, x5, x6⟩ := hcut
        have w0 := trivial
        have w1 := trivial
        go_wp2_with (go_at_call 53; (with_reducible refine (evr _ HK2.out).mono ?_); rintro e W4 ⟨v4, rfl, hL, hb4⟩; obtain ⟨RL, rl, hv4, hll, hCL⟩ := Kd.R_reads hL; subst hv4)
        have HS3 := HS2.out
        have hgW := Nat.lt_of_lt_of_le hgw HK2.out.size
        have HS4 := HS3.later hb4
        have HK4 := HK2.out.trans (NtK.of_below hgW hb4)
        have HLR := Aside0.mk (fun wr (hk : NtK g W4 wr) => StrR.kept hgW HS3 hb4 hL hk)
        clear hCL HS3 hL HS2 HK2
        generalize hLq : varsL (preT x.f2) [] = L at *
        have HLQ := Lib.hid hLq
        clear hLq
        go_loopg [7, 48] L.length (fun gg _ v48 wr => ∃ kk : Nat, kk ≤ L.length ∧ gg + kk = L.length ∧ v48 = .int .i64 (kk : Int) ∧ Aside0 (NtS base g (vs ++ [x]) (addNs (L.take kk) ts) wr) ∧ Aside0 (NtK g W4 wr))
        case atStart => exact ⟨0, by omega, by omega, rfl, ⟨HS4⟩, ⟨⟨Below.refl _ _, fun _ _ _ _ => rfl, fun _ h => .inl h⟩⟩⟩
        case round =>
          obtain ⟨kk, hk1, hk2, rfl, HSr, HKr⟩ := hrel
          clear HS4
          obtain ⟨v, u, hBr, hVr, hUr⟩ := id HSr.out
          obtain ⟨RA', rc', rfl, _, _⟩ := hVr.reads
          obtain ⟨RB', rd', rfl, hul', hCu'⟩ := Kd.R_reads hUr
          have w0 := (blk_cell hBr 0).trans rfl
          have w1 := (blk_cell hBr 1).trans rfl
          have hgl := hBr.lt
          by_cases hkk : kk < L.length
          · have q0 : decide (kk < L.length) = true := decide_eq_true hkk
            obtain ⟨RL2, rl2, he2, _, hCL⟩ := Kd.R_reads (HLR.out wr HKr.out)
            injection he2 with he2 _ he3
            subst he2 he3
            obtain ⟨ad, e1, hx⟩ := Kd.at_string hCL (kk : Int) (by omega) (by omega)
            cases e1
            rw [rdOf_get L kk hkk, Int.toNat_natCast] at hx
            have hnx := addNs_take L ts kk hkk
            have hcl := addNs_len (L.take kk) ts
            rw [List.length_take] at hcl
            have HNX := Lib.hid hnx
            have hcf := contains_f (addNs (L.take kk) ts) L[kk] (by have := HTL.out; have := HLL.out; omega)
            have HCL := Lib.hid hcl
            clear hnx hcl hCL
            generalize L[kk] = s at *
            generalize addNs (L.take kk) ts = cur at *
            have hct := fun W (hW : Below wr.heap.size wr W) => slices_Contains_string_string.calls _ RB' rd' cur s _ W (Kd.C_below hCu' hW) hul' hcf
            clear hCu' hcf
            have hbr := Below.refl wr.heap.size wr
            cases hin : inS cur s with
            | true =>
              rw [hin] at hct
              have hadd : addN cur s = cur := by unfold addN; rw [if_pos hin]
              have HADD := Lib.hid hadd
              clear hadd hin
              go_wp2_with (go_at_call 117; (with_reducible refine (hct _ hbr).mono ?_); rintro e W5 ⟨rfl, hd⟩; have hb5 := hd.below)
              go_roundg (L.length - kk - 1)
              case measure => omega
              case rel => exact ⟨kk + 1, by omega, by omega, by simp <;> exact w64s (by have := HTL.out; have := HLL.out; omega), ⟨by rw [HNX.out, HADD.out]; exact HSr.out.later hb5⟩, ⟨HKr.out.trans (NtK.of_below hgl hb5)⟩⟩
            | false =>
              rw [hin] at hct
              have hadd : addN cur s = cur ++ [s] := by unfold addN; rw [if_neg (by rw [hin]; simp)]
              have HADD := Lib.hid hadd
              clear hadd hin
              go_wp2_with (first | ((with_reducible refine gate_dst (N := 66) rfl ?_); refine lock4_ ?_) | (go_at_call 117; (with_reducible refine (hct _ hbr).mono ?_); rintro e W5 ⟨rfl, hd⟩; have hb5 := hd.below; have hB5 := blk_below hBr hb5; have w0 := (blk_cell hB5 0).trans rfl; have w1 := (blk_cell hB5 1).trans rfl))
              unfold Lock4
              have hS5 := HSr.out.later hb5
              have hbs5 : base ≤ W5.heap.size := Nat.le_trans hbs (Nat.le_trans (HK4.trans HKr.out).size hb5.size)
              refine Kd.R_append Kd.string (w0 := W5) base (by rfl) (.tmp 63) (.tmp 65) 43 9 (.string ⟨#[]⟩) 16 (by rfl) Try.underlying43 info_str (by rfl) (by decide) (by decide) (.slice RB' cur.length rd') cur s [.string s] (fun _ => True) (fun _ => False) (by rfl) (by rfl) rfl (fun _ h => h.elim) (fun _ _ => trivial) (Kd.R_below hUr hb5) (Below.refl _ _) hbs5 (by have := HTL.out; have := HCL.out; have := HLL.out; omega) ?_
              intro v2 W6 hR6 hB6 hg6 hat6
              obtain ⟨RC, re, hv2, _, _⟩ := Kd.R_reads hR6
              rw [show (cur ++ [s]).length = cur.length + 1 by simp] at hv2
              subst hv2
              have hfin := Nt_str hgb hB5 (hVr.later hb5) (Kd.R_below hUr hb5) hR6 hB6 hg6 hat6
              have HFIN := Aside0.mk hfin
              have hB6' : W6.heap[g]? = some (.cells #[.slice RA' (vs ++ [x]).length rc', .slice RB' cur.length rd'] 126 (0, 0)) := (hg6.block g (blk_lt hB5) (fun e => by obtain ⟨_, _, ho, _⟩ := Kd.R_below hUr hb5; have := own_base ho g e.symm; omega)).trans hB5
              clear hfin hR6 hB6 hg6 hat6 w0 w1
              have w0 := (blk_cell hB6' 0).trans rfl
              have w1 := (blk_cell hB6' 1).trans rfl
              have r1 := blk_frozen hB6' 1
              clear hct
              go_wp2_with fail
              go_roundg (L.length - kk - 1)
              case measure => omega
              case rel => exact ⟨kk + 1, by omega, by omega, by simp <;> exact w64s (by have := HTL.out; have := HLL.out; omega), ⟨by rw [HNX.out, HADD.out]; exact HFIN.out.1⟩, ⟨(HKr.out.trans (NtK.of_below hgl hb5)).trans HFIN.out.2⟩⟩
          · have q0 : decide (kk < L.length) = false := decide_eq_false hkk
            obtain rfl : kk = L.length := by omega
            have HSE := HSr.out
            rw [List.take_length] at HSE
            have HSEA := Aside0.mk HSE
            clear HSE hkk
            go_wp2_with fail
            refine bodyPost_end (v := .tuple #[]) (by simp [results, Try.results101, go_sem]) rfl ?_
            exact ⟨rfl, by rw [HLQ.out]; exact HSEA.out, HK4.trans HKr.out⟩
      case first =>
      go_wp2_with fail
      have hgW1 := HBW1.out.lt
      have HK1 := HK2
      have et := fun W (hW : Below W1.heap.size W1 W) => etw W (HK1.out.trans (NtK.of_below hgW1 hW))
      have HV1 := Aside0.mk (HV.out.later hb1)
      have HU1 := Aside0.mk (Kd.R_below HU.out hb1)
      have hbW1 := hb1
      have HBS1 := Aside0.mk (Nat.le_trans hbs HK1.out.size)
      have hD := below_drew1 (Below.refl W1.heap.size W1)
      have hbc := hD
      have hBc := blk_below HBW1.out hD
      have hXc := blk_below HBX1.out hD
      clear HS2 HK2 hsc etw HV HU HK0 HS0 w0 w1 x0 x1 x2 x3 x4 x5 x6 BX hB
      refine wp_region_held_drew (S := fun W => BxM W w.heap.size x A c B d) (by kernel_rfl) (by exact box7 hXc) (fun hHeld => ?_)
      refine wpAnyH_take (i := 0) (oi := ntO0) (v := ?_) rfl (by kernel_rfl) (by kernel_rfl) (by kernel_rfl) (fun _ _ _ h => h) (Or.inl ⟨by rfl, ?_⟩) (by assumption) ?_
      rotate_left
      · intro w' hSw; (try dsimp only at hSw); (try dsimp only [ntO0]); go_simp; try with_reducible rfl
      try simp only [ntO0]
      try simp only [Act.put, List.setIfInBounds_toArray, List.set_cons_zero, List.set_cons_succ]
      refine wpAnyH_take (i := 1) (oi := ntO1) (v := ?_) rfl (by kernel_rfl) (by kernel_rfl) (by kernel_rfl) (fun _ _ _ h => h) (Or.inl ⟨by rfl, ?_⟩) (by assumption) ?_
      rotate_left
      · intro w' hSw; (try dsimp only at hSw); (try dsimp only [ntO1]); go_simp; try with_reducible rfl
      try simp only [ntO1]
      try simp only [Act.put, List.setIfInBounds_toArray, List.set_cons_zero, List.set_cons_succ]
      refine wpAnyH_take (i := 2) (oi := ntO2) (v := ?_) rfl (by kernel_rfl) (by kernel_rfl) (by kernel_rfl) (fun _ _ _ h => h) (Or.inl ⟨by rfl, ?_⟩) (by assumption) ?_
      rotate_left
      · intro w' hSw; (try dsimp only at hSw); (try dsimp only [ntO2]); go_simp; try with_reducible rfl
      try simp only [ntO2]
      try simp only [Act.put, List.setIfInBounds_toArray, List.set_cons_zero, List.set_cons_succ]
      refine wpAnyH_take (i := 4) (oi := ntO4) (v := ?_) rfl (by kernel_rfl) (by kernel_rfl) (by kernel_rfl) (fun _ _ _ h => h) (Or.inl ⟨by rfl, ?_⟩) (by assumption) ?_
      rotate_left
      · intro w' hSw; (try dsimp only at hSw); (try dsimp only [ntO4]); go_simp; try with_reducible rfl
      try simp only [ntO4]
      try simp only [Act.put, List.setIfInBounds_toArray, List.set_cons_zero, List.set_cons_succ]
      refine wpAnyH_ready (rs := [3, 5, 7]) (by kernel_rfl) (by simp) ?_
      refine AllReadyH.cons (o := ntO3) rfl (fun K hK => ?_) (AllReadyH.cons (o := ntO5) rfl (fun K hK => ?_) (AllReadyH.cons (o := ntO7) rfl (fun K hK => ?_) AllReadyH.nil))
      · dsimp only [ntO3]
        have wc0 := (blk_cell hBc 0).trans rfl
        go_simp
        refine hK.out _ _ (by exact box7 hXc) (fun hHeld => ?_)
        clear hK K
        try simp only [Act.put, List.setIfInBounds_toArray, List.set_cons_zero, List.set_cons_succ]
        refine wpAnyH_take (i := 6) (oi := ntO6) (v := ?_) rfl (by kernel_rfl) (by kernel_rfl) (by kernel_rfl) (fun _ _ _ h => h) (Or.inl ⟨by rfl, ?_⟩) (by assumption) ?_
        rotate_left
        · intro w' hSw; (try dsimp only at hSw); (try dsimp only [ntO6]); go_simp; try with_reducible rfl
        try simp only [ntO6]
        try simp only [Act.put, List.setIfInBounds_toArray, List.set_cons_zero, List.set_cons_succ]
        refine wpAnyH_ready (rs := [5, 7]) (by kernel_rfl) (by simp) ?_
        refine AllReadyH.cons (o := ntO5) rfl (fun K hK => ?_) (AllReadyH.cons (o := ntO7) rfl (fun K hK => ?_) AllReadyH.nil)
        · dsimp only [ntO5]
          go_simp
          go_wp2_with (go_at_call 28; (with_reducible refine (et _ hbc).mono ?_); rintro e w5 ⟨r5, rfl, hO5, hb5⟩; obtain ⟨vt, vs5, hr5, hT5, hM5⟩ := hO5; subst hr5; obtain ⟨At, ct, hvt, _, _⟩ := hT5.reads; subst hvt; obtain ⟨Bt, dt, hvs, _, _⟩ := hM5.reads; subst hvs)
          have HLT := Aside0.mk hbc.size
          replace hBc := blk_below hBc hb5
          replace hXc := blk_below hXc hb5
          replace hbc := below_step hbc hb5
          refine hK.out _ _ (by exact box7 hXc) (fun hHeld => ?_)
          clear hK K
          try simp only [Act.put, List.setIfInBounds_toArray, List.set_cons_zero, List.set_cons_succ]
          refine wpAnyH_ready (rs := [7]) (by kernel_rfl) (by simp) ?_
          refine AllReadyH.cons (o := ntO7) rfl (fun K hK => ?_) AllReadyH.nil
          dsimp only [ntO7]
          go_simp
          have hbn := below_one (w := w5) (.cells #[.int .u8 0, .string ⟨#[]⟩, .bool false, .string ⟨#[]⟩, .slice none 0 0, .int .i64 0, .slice none 0 0] 27)
          replace hBc := blk_below hBc hbn
          replace hXc := blk_below hXc hbn
          replace hbc := below_step hbc hbn
          have hnews := blk_new w5 (.cells #[.int .u8 0, .string ⟨#[]⟩, .bool false, .string ⟨#[]⟩, .slice none 0 0, .int .i64 0, .slice none 0 0] 27)
          replace hT5 := hT5.later hbn
          replace hM5 := hM5.later hbn
          refine hK.out _ _ (by exact box7 hXc) (fun hHeld => ?_)
          clear hK K
          try simp only [Act.put, List.setIfInBounds_toArray, List.set_cons_zero, List.set_cons_succ]
          obtain ⟨i0, hi0, hz0, hz1, hz2⟩ := info_parts info27
          obtain ⟨inner, tsf, ssf, hrow, hel⟩ := id HV1.out
          have hlow : ∀ k, W1.heap.size ≤ k → w.heap.size ≤ k := fun k hk => Nat.le_trans (Nat.le_of_lt (blk_lt HBX1.out)) hk
          refine wpAnyH_ready (rs := [8]) (by kernel_rfl) (by simp) ?_
          refine AllReadyH.cons (o := ntO8) rfl (fun K hK => ?_) AllReadyH.nil
          refine step_append_lies _ rfl _ _ 25 rfl base 27 i0 _ 7 104 Try.underlying25 hi0 hz0 hz1 hz2 rfl (by decide) (.slice RA vs.length rc) vs.length inner rfl (own_later hrow hbc) ⟨w5.heap.size, 0, none⟩ 1 1 [.int .u8 0, .string ⟨#[]⟩, .bool false, .string ⟨#[]⟩, .slice none 0 0, .int .i64 0, .slice none 0 0] rfl rfl (World.news_of_block hnews) ?hone (by decide) ?h63 ?hby ?hbase _ rfl ?_
          case hone => simp [Value.oneCell']
          case h63 => have := HVL.out; unfold maxLen; omega
          case hby => have := HVL.out; omega
          case hbase => have := hbc.size; have := HBS1.out; omega
          intro g' cap w3 hown3 hgr hat hg3
          have hvb : ∀ k, (Value.slice RA vs.length rc).ownBlock = some k → base ≤ k := fun k hk => own_base hrow k hk
          have hvx : some w.heap.size ≠ (Value.slice RA vs.length rc).ownBlock := fun e => hnr _ hbW1 ⟨_, _, HBW1.out, .inl e.symm⟩
          have hB3 := (hgr.block g (blk_lt hBc) (fun e => by have := hvb g e.symm; omega)).trans hBc
          have hX3 := (hgr.block w.heap.size (blk_lt hXc) hvx).trans hXc
          have hil : inner.length = vs.length * 7 := hrow.1
          have hl1 : (vs.length : Int) < (vs.length : Int) + 1 := by omega
          obtain ⟨p0, p1, p2, p3, p4, p5, p6, q0, q1, q2, q3, q4, q5, q6⟩ := own_cells7 hil hown3
          refine hK.out _ _ (by exact box7 hX3) (fun hHeld => ?_)
          clear hK K
          try simp only [Act.put, List.setIfInBounds_toArray, List.set_cons_zero, List.set_cons_succ]
          refine wpAnyH_take (i := 9) (oi := ntO9) (v := ?_) rfl (by kernel_rfl) (by kernel_rfl) (by kernel_rfl) (fun _ _ _ h => h) (Or.inl ⟨by rfl, ?_⟩) (by assumption) ?_
          rotate_left
          · intro w' hSw; (try dsimp only at hSw); (try dsimp only [ntO9]); go_simp; try with_reducible rfl
          try simp only [ntO9]
          try simp only [Act.put, List.setIfInBounds_toArray, List.set_cons_zero, List.set_cons_succ]
          refine wpAnyH_take (i := 11) (oi := ntO11) (v := ?_) rfl (by kernel_rfl) (by kernel_rfl) (by kernel_rfl) (fun _ _ _ h => h) (Or.inl ⟨by rfl, ?_⟩) (by assumption) ?_
          rotate_left
          · intro w' hSw; (try dsimp only at hSw); (try dsimp only [ntO11]); go_simp; try with_reducible rfl
          try simp only [ntO11]
          try simp only [Act.put, List.setIfInBounds_toArray, List.set_cons_zero, List.set_cons_succ]
          refine wpAnyH_take (i := 12) (oi := ntO12) (v := ?_) rfl (by kernel_rfl) (by kernel_rfl) (by kernel_rfl) (fun _ _ _ h => h) (Or.inl ⟨by rfl, ?_⟩) (by assumption) ?_
          rotate_left
          · intro w' hSw; (try dsimp only at hSw); (try dsimp only [ntO12]); go_simp; try with_reducible rfl
          try simp only [ntO12]
          try simp only [Act.put, List.setIfInBounds_toArray, List.set_cons_zero, List.set_cons_succ]
          have hgg : g ≠ g' := fun e => by
            rcases hat with h | h
            · have := hvb _ h; omega
            · have := blk_lt hBc; omega
          have hxg : w.heap.size ≠ g' := fun e => by
            rcases hat with h | h
            · exact hvx (by rw [e, h])
            · have := blk_lt hXc; omega
          have hxg2 : w.heap.size ≠ g := by omega
          refine wpAnyH_ready (rs := [10, 13]) (by kernel_rfl) (by simp) ?_
          refine AllReadyH.cons (o := ntO10) rfl (fun K hK => ?_) (AllReadyH.cons (o := ntO13) rfl (fun K hK => ?_) AllReadyH.nil)
          · dsimp only [ntO10]
            go_simp
            refine hK.out _ _ (by exact box7 (blk_far (blk_far (blk_far (blk_far (blk_far (blk_far (blk_far (hX3) (by (try dsimp only); exact hxg) _) (by (try dsimp only); exact hxg) _) (by (try dsimp only); exact hxg) _) (by (try dsimp only); exact hxg) _) (by (try dsimp only); exact hxg) _) (by (try dsimp only); exact hxg) _) (by (try dsimp only); exact hxg) _)) (fun hHeld => ?_)
            clear hK K
            try simp only [Act.put, List.setIfInBounds_toArray, List.set_cons_zero, List.set_cons_succ]
            have hB4 : ((((((((w3).setCell ⟨g', vs.length * 7, none⟩ (.int .u8 x.f0)).setCell ⟨g', vs.length * 7 + 1, none⟩ (.string x.f1)).setCell ⟨g', vs.length * 7 + 2, none⟩ (.bool x.f2.f0)).setCell ⟨g', vs.length * 7 + 3, none⟩ (.string x.f2.f1)).setCell ⟨g', vs.length * 7 + 4, none⟩ (.slice At x.f2.f2.length ct)).setCell ⟨g', vs.length * 7 + 5, none⟩ (.int .i64 x.f3)).setCell ⟨g', vs.length * 7 + 6, none⟩ (.slice Bt x.f4.length dt)).heap[g]? = some (.cells #[.slice RA vs.length rc, .slice RB ts.length rd] 126 (0, 0)) := blk_far (blk_far (blk_far (blk_far (blk_far (blk_far (blk_far (hB3) (by (try dsimp only); exact hgg) _) (by (try dsimp only); exact hgg) _) (by (try dsimp only); exact hgg) _) (by (try dsimp only); exact hgg) _) (by (try dsimp only); exact hgg) _) (by (try dsimp only); exact hgg) _) (by (try dsimp only); exact hgg) _
            have wc0 := (blk_cell hB4 0).trans rfl
            have rc0 := blk_frozen hB4 0
            refine wpAnyH_ready (rs := [13]) (by kernel_rfl) (by simp) ?_
            refine AllReadyH.cons (o := ntO13) rfl (fun K hK => ?_) AllReadyH.nil
            dsimp only [ntO13]
            go_simp
            refine hK.out _ _ (by exact box7 (blk_far (blk_far (blk_far (blk_far (blk_far (blk_far (blk_far (blk_far (hX3) (by (try dsimp only); exact hxg) _) (by (try dsimp only); exact hxg) _) (by (try dsimp only); exact hxg) _) (by (try dsimp only); exact hxg) _) (by (try dsimp only); exact hxg) _) (by (try dsimp only); exact hxg) _) (by (try dsimp only); exact hxg) _) (by (try dsimp only); exact hxg2) _)) (fun hHeld => ?_)
            clear hK K
            try simp only [Act.put, List.setIfInBounds_toArray, List.set_cons_zero, List.set_cons_succ]
            clear hB4 wc0 rc0
            have hW5 := Nt_wa (ut := .slice At x.f2.f2.length ct) (us := .slice Bt x.f4.length dt) (x := x) hil hgb (blk_lt hBc) hBc hvb (by have := hbc.size; have := HBS1.out; omega) hown3 hgr hat
            have hP := Nt_push (ts := ts) hgb HBS1.out HBW1.out hrow hel HU1.out hbc (hT5.mono (fun k hk => Nat.le_trans HLT.out hk)) (hM5.mono (fun k hk => Nat.le_trans HLT.out hk)) hat hW5
            have HS2 := Aside0.mk hP.1
            have HK2 := Aside0.mk (HK1.out.trans hP.2)
            have hX9 := hP.2.blk HBX1.out (by omega) (hnr _ hbW1)
            obtain ⟨x0, x1, x2, x3, x4, x5, x6⟩ := box7 hX9
            clear hW5 hP hB3 hX3 p0 p1 p2 p3 p4 p5 p6 q0 q1 q2 q3 q4 q5 q6 hown3 hgr hat hBc hXc hT5 hM5 hrow hel hX9 hnews
            refine wpAnyH_done (by kernel_rfl) ?_ _
            go_wp2_with fail
            go_meet
            case rel => exact ⟨HS2, HK2, x0, x1, x2, x3, x4, x5, x6⟩
          · have wc0 := (blk_cell hB3 0).trans rfl
            have rc0 := blk_frozen hB3 0
            dsimp only [ntO13]
            go_simp
            refine hK.out _ _ (by exact box7 (blk_far hX3 (by (try dsimp only); exact hxg2) _)) (fun hHeld => ?_)
            clear hK K
            try simp only [Act.put, List.setIfInBounds_toArray, List.set_cons_zero, List.set_cons_succ]
            have hown4 := own_move (w1 := w3.setCell ⟨g, 0, none⟩ (.slice (some ⟨g', 0, none⟩) (vs.length + 1) cap)) hown3 (fun k hk => Below.heap_setCell _ _ _ k (own_slice_ne hk hgg))
            clear p0 p1 p2 p3 p4 p5 p6 q0 q1 q2 q3 q4 q5 q6 wc0 rc0
            obtain ⟨p0, p1, p2, p3, p4, p5, p6, q0, q1, q2, q3, q4, q5, q6⟩ := own_cells7 hil hown4
            refine wpAnyH_ready (rs := [10]) (by kernel_rfl) (by simp) ?_
            refine AllReadyH.cons (o := ntO10) rfl (fun K hK => ?_) AllReadyH.nil
            dsimp only [ntO10]
            go_simp
            refine hK.out _ _ (by exact box7 (blk_far (blk_far (blk_far (blk_far (blk_far (blk_far (blk_far ((blk_far hX3 (by (try dsimp only); exact hxg2) _)) (by (try dsimp only); exact hxg) _) (by (try dsimp only); exact hxg) _) (by (try dsimp only); exact hxg) _) (by (try dsimp only); exact hxg) _) (by (try dsimp only); exact hxg) _) (by (try dsimp only); exact hxg) _) (by (try dsimp only); exact hxg) _)) (fun hHeld => ?_)
            clear hK K
            try simp only [Act.put, List.setIfInBounds_toArray, List.set_cons_zero, List.set_cons_succ]
            clear hown4
            have hW5 := Nt_wb (ut := .slice At x.f2.f2.length ct) (us := .slice Bt x.f4.length dt) (x := x) hil hgb (blk_lt hBc) hBc hvb (by have := hbc.size; have := HBS1.out; omega) hown3 hgr hat
            have hP := Nt_push (ts := ts) hgb HBS1.out HBW1.out hrow hel HU1.out hbc (hT5.mono (fun k hk => Nat.le_trans HLT.out hk)) (hM5.mono (fun k hk => Nat.le_trans HLT.out hk)) hat hW5
            have HS2 := Aside0.mk hP.1
            have HK2 := Aside0.mk (HK1.out.trans hP.2)
            have hX9 := hP.2.blk HBX1.out (by omega) (hnr _ hbW1)
            obtain ⟨x0, x1, x2, x3, x4, x5, x6⟩ := box7 hX9
            clear hW5 hP hB3 hX3 p0 p1 p2 p3 p4 p5 p6 q0 q1 q2 q3 q4 q5 q6 hown3 hgr hat hBc hXc hT5 hM5 hrow hel hX9 hnews
            refine wpAnyH_done (by kernel_rfl) ?_ _
            go_wp2_with fail
            go_meet
            case rel => exact ⟨HS2, HK2, x0, x1, x2, x3, x4, x5, x6⟩
        · dsimp only [ntO7]
          go_simp
          replace hbc := below_drew1 (below_one (w := W1) (.cells #[.int .u8 0, .string ⟨#[]⟩, .bool false, .string ⟨#[]⟩, .slice none 0 0, .int .i64 0, .slice none 0 0] 27))
          replace hBc := blk_below HBW1.out hbc
          replace hXc := blk_below HBX1.out hbc
          have hnews := blk_below (blk_new W1 (.cells #[.int .u8 0, .string ⟨#[]⟩, .bool false, .string ⟨#[]⟩, .slice none 0 0, .int .i64 0, .slice none 0 0] 27)) (below_drew1 (Below.refl _ _))
          refine hK.out _ _ (by exact box7 hXc) (fun hHeld => ?_)
          clear hK K
          try simp only [Act.put, List.setIfInBounds_toArray, List.set_cons_zero, List.set_cons_succ]
          refine wpAnyH_ready (rs := [5]) (by kernel_rfl) (by simp) ?_
          refine AllReadyH.cons (o := ntO5) rfl (fun K hK => ?_) AllReadyH.nil
          dsimp only [ntO5]
          go_simp
          go_wp2_with (go_at_call 28; (with_reducible refine (et _ hbc).mono ?_); rintro e w5 ⟨r5, rfl, hO5, hb5⟩; obtain ⟨vt, vs5, hr5, hT5, hM5⟩ := hO5; subst hr5; obtain ⟨At, ct, hvt, _, _⟩ := hT5.reads; subst hvt; obtain ⟨Bt, dt, hvs, _, _⟩ := hM5.reads; subst hvs)
          have HLT := Aside0.mk hbc.size
          replace hBc := blk_below hBc hb5
          replace hXc := blk_below hXc hb5
          have hnews := blk_below hnews hb5
          replace hbc := below_step hbc hb5
          refine hK.out _ _ (by exact box7 hXc) (fun hHeld => ?_)
          clear hK K
          try simp only [Act.put, List.setIfInBounds_toArray, List.set_cons_zero, List.set_cons_succ]
          obtain ⟨i0, hi0, hz0, hz1, hz2⟩ := info_parts info27
          obtain ⟨inner, tsf, ssf, hrow, hel⟩ := id HV1.out
          have hlow : ∀ k, W1.heap.size ≤ k → w.heap.size ≤ k := fun k hk => Nat.le_trans (Nat.le_of_lt (blk_lt HBX1.out)) hk
          refine wpAnyH_ready (rs := [8]) (by kernel_rfl) (by simp) ?_
          refine AllReadyH.cons (o := ntO8) rfl (fun K hK => ?_) AllReadyH.nil
          refine step_append_lies _ rfl _ _ 25 rfl base 27 i0 _ 7 104 Try.underlying25 hi0 hz0 hz1 hz2 rfl (by decide) (.slice RA vs.length rc) vs.length inner rfl (own_later hrow hbc) ⟨W1.heap.size, 0, none⟩ 1 1 [.int .u8 0, .string ⟨#[]⟩, .bool false, .string ⟨#[]⟩, .slice none 0 0, .int .i64 0, .slice none 0 0] rfl rfl (World.news_of_block hnews) ?hone (by decide) ?h63 ?hby ?hbase _ rfl ?_
          case hone => simp [Value.oneCell']
          case h63 => have := HVL.out; unfold maxLen; omega
          case hby => have := HVL.out; omega
          case hbase => have := hbc.size; have := HBS1.out; omega
          intro g' cap w3 hown3 hgr hat hg3
          have hvb : ∀ k, (Value.slice RA vs.length rc).ownBlock = some k → base ≤ k := fun k hk => own_base hrow k hk
          have hvx : some w.heap.size ≠ (Value.slice RA vs.length rc).ownBlock := fun e => hnr _ hbW1 ⟨_, _, HBW1.out, .inl e.symm⟩
          have hB3 := (hgr.block g (blk_lt hBc) (fun e => by have := hvb g e.symm; omega)).trans hBc
          have hX3 := (hgr.block w.heap.size (blk_lt hXc) hvx).trans hXc
          have hil : inner.length = vs.length * 7 := hrow.1
          have hl1 : (vs.length : Int) < (vs.length : Int) + 1 := by omega
          obtain ⟨p0, p1, p2, p3, p4, p5, p6, q0, q1, q2, q3, q4, q5, q6⟩ := own_cells7 hil hown3
          refine hK.out _ _ (by exact box7 hX3) (fun hHeld => ?_)
          clear hK K
          try simp only [Act.put, List.setIfInBounds_toArray, List.set_cons_zero, List.set_cons_succ]
          refine wpAnyH_take (i := 9) (oi := ntO9) (v := ?_) rfl (by kernel_rfl) (by kernel_rfl) (by kernel_rfl) (fun _ _ _ h => h) (Or.inl ⟨by rfl, ?_⟩) (by assumption) ?_
          rotate_left
          · intro w' hSw; (try dsimp only at hSw); (try dsimp only [ntO9]); go_simp; try with_reducible rfl
          try simp only [ntO9]
          try simp only [Act.put, List.setIfInBounds_toArray, List.set_cons_zero, List.set_cons_succ]
          refine wpAnyH_take (i := 11) (oi := ntO11) (v := ?_) rfl (by kernel_rfl) (by kernel_rfl) (by kernel_rfl) (fun _ _ _ h => h) (Or.inl ⟨by rfl, ?_⟩) (by assumption) ?_
          rotate_left
          · intro w' hSw; (try dsimp only at hSw); (try dsimp only [ntO11]); go_simp; try with_reducible rfl
          try simp only [ntO11]
          try simp only [Act.put, List.setIfInBounds_toArray, List.set_cons_zero, List.set_cons_succ]
          refine wpAnyH_take (i := 12) (oi := ntO12) (v := ?_) rfl (by kernel_rfl) (by kernel_rfl) (by kernel_rfl) (fun _ _ _ h => h) (Or.inl ⟨by rfl, ?_⟩) (by assumption) ?_
          rotate_left
          · intro w' hSw; (try dsimp only at hSw); (try dsimp only [ntO12]); go_simp; try with_reducible rfl
          try simp only [ntO12]
          try simp only [Act.put, List.setIfInBounds_toArray, List.set_cons_zero, List.set_cons_succ]
          have hgg : g ≠ g' := fun e => by
            rcases hat with h | h
            · have := hvb _ h; omega
            · have := blk_lt hBc; omega
          have hxg : w.heap.size ≠ g' := fun e => by
            rcases hat with h | h
            · exact hvx (by rw [e, h])
            · have := blk_lt hXc; omega
          have hxg2 : w.heap.size ≠ g := by omega
          refine wpAnyH_ready (rs := [10, 13]) (by kernel_rfl) (by simp) ?_
          refine AllReadyH.cons (o := ntO10) rfl (fun K hK => ?_) (AllReadyH.cons (o := ntO13) rfl (fun K hK => ?_) AllReadyH.nil)
          · dsimp only [ntO10]
            go_simp
            refine hK.out _ _ (by exact box7 (blk_far (blk_far (blk_far (blk_far (blk_far (blk_far (blk_far (hX3) (by (try dsimp only); exact hxg) _) (by (try dsimp only); exact hxg) _) (by (try dsimp only); exact hxg) _) (by (try dsimp only); exact hxg) _) (by (try dsimp only); exact hxg) _) (by (try dsimp only); exact hxg) _) (by (try dsimp only); exact hxg) _)) (fun hHeld => ?_)
            clear hK K
            try simp only [Act.put, List.setIfInBounds_toArray, List.set_cons_zero, List.set_cons_succ]
            have hB4 : ((((((((w3).setCell ⟨g', vs.length * 7, none⟩ (.int .u8 x.f0)).setCell ⟨g', vs.length * 7 + 1, none⟩ (.string x.f1)).setCell ⟨g', vs.length * 7 + 2, none⟩ (.bool x.f2.f0)).setCell ⟨g', vs.length * 7 + 3, none⟩ (.string x.f2.f1)).setCell ⟨g', vs.length * 7 + 4, none⟩ (.slice At x.f2.f2.length ct)).setCell ⟨g', vs.length * 7 + 5, none⟩ (.int .i64 x.f3)).setCell ⟨g', vs.length * 7 + 6, none⟩ (.slice Bt x.f4.length dt)).heap[g]? = some (.cells #[.slice RA vs.length rc, .slice RB ts.length rd] 126 (0, 0)) := blk_far (blk_far (blk_far (blk_far (blk_far (blk_far (blk_far (hB3) (by (try dsimp only); exact hgg) _) (by (try dsimp only); exact hgg) _) (by (try dsimp only); exact hgg) _) (by (try dsimp only); exact hgg) _) (by (try dsimp only); exact hgg) _) (by (try dsimp only); exact hgg) _) (by (try dsimp only); exact hgg) _
            have wc0 := (blk_cell hB4 0).trans rfl
            have rc0 := blk_frozen hB4 0
            refine wpAnyH_ready (rs := [13]) (by kernel_rfl) (by simp) ?_
            refine AllReadyH.cons (o := ntO13) rfl (fun K hK => ?_) AllReadyH.nil
            dsimp only [ntO13]
            go_simp
            refine hK.out _ _ (by exact box7 (blk_far (blk_far (blk_far (blk_far (blk_far (blk_far (blk_far (blk_far (hX3) (by (try dsimp only); exact hxg) _) (by (try dsimp only); exact hxg) _) (by (try dsimp only); exact hxg) _) (by (try dsimp only); exact hxg) _) (by (try dsimp only); exact hxg) _) (by (try dsimp only); exact hxg) _) (by (try dsimp only); exact hxg) _) (by (try dsimp only); exact hxg2) _)) (fun hHeld => ?_)
            clear hK K
            try simp only [Act.put, List.setIfInBounds_toArray, List.set_cons_zero, List.set_cons_succ]
            clear hB4 wc0 rc0
            have hW5 := Nt_wa (ut := .slice At x.f2.f2.length ct) (us := .slice Bt x.f4.length dt) (x := x) hil hgb (blk_lt hBc) hBc hvb (by have := hbc.size; have := HBS1.out; omega) hown3 hgr hat
            have hP := Nt_push (ts := ts) hgb HBS1.out HBW1.out hrow hel HU1.out hbc (hT5.mono (fun k hk => Nat.le_trans HLT.out hk)) (hM5.mono (fun k hk => Nat.le_trans HLT.out hk)) hat hW5
            have HS2 := Aside0.mk hP.1
            have HK2 := Aside0.mk (HK1.out.trans hP.2)
            have hX9 := hP.2.blk HBX1.out (by omega) (hnr _ hbW1)
            obtain ⟨x0, x1, x2, x3, x4, x5, x6⟩ := box7 hX9
            clear hW5 hP hB3 hX3 p0 p1 p2 p3 p4 p5 p6 q0 q1 q2 q3 q4 q5 q6 hown3 hgr hat hBc hXc hT5 hM5 hrow hel hX9 hnews
            refine wpAnyH_done (by kernel_rfl) ?_ _
            go_wp2_with fail
            go_meet
            case rel => exact ⟨HS2, HK2, x0, x1, x2, x3, x4, x5, x6⟩
          · have wc0 := (blk_cell hB3 0).trans rfl
            have rc0 := blk_frozen hB3 0
            dsimp only [ntO13]
            go_simp
            refine hK.out _ _ (by exact box7 (blk_far hX3 (by (try dsimp only); exact hxg2) _)) (fun hHeld => ?_)
            clear hK K
            try simp only [Act.put, List.setIfInBounds_toArray, List.set_cons_zero, List.set_cons_succ]
            have hown4 := own_move (w1 := w3.setCell ⟨g, 0, none⟩ (.slice (some ⟨g', 0, none⟩) (vs.length + 1) cap)) hown3 (fun k hk => Below.heap_setCell _ _ _ k (own_slice_ne hk hgg))
            clear p0 p1 p2 p3 p4 p5 p6 q0 q1 q2 q3 q4 q5 q6 wc0 rc0
            obtain ⟨p0, p1, p2, p3, p4, p5, p6, q0, q1, q2, q3, q4, q5, q6⟩ := own_cells7 hil hown4
            refine wpAnyH_ready (rs := [10]) (by kernel_rfl) (by simp) ?_
            refine AllReadyH.cons (o := ntO10) rfl (fun K hK => ?_) AllReadyH.nil
            dsimp only [ntO10]
            go_simp
            refine hK.out _ _ (by exact box7 (blk_far (blk_far (blk_far (blk_far (blk_far (blk_far (blk_far ((blk_far hX3 (by (try dsimp only); exact hxg2) _)) (by (try dsimp only); exact hxg) _) (by (try dsimp only); exact hxg) _) (by (try dsimp only); exact hxg) _) (by (try dsimp only); exact hxg) _) (by (try dsimp only); exact hxg) _) (by (try dsimp only); exact hxg) _) (by (try dsimp only); exact hxg) _)) (fun hHeld => ?_)
            clear hK K
            try simp only [Act.put, List.setIfInBounds_toArray, List.set_cons_zero, List.set_cons_succ]
            clear hown4
            have hW5 := Nt_wb (ut := .slice At x.f2.f2.length ct) (us := .slice Bt x.f4.length dt) (x := x) hil hgb (blk_lt hBc) hBc hvb (by have := hbc.size; have := HBS1.out; omega) hown3 hgr hat
            have hP := Nt_push (ts := ts) hgb HBS1.out HBW1.out hrow hel HU1.out hbc (hT5.mono (fun k hk => Nat.le_trans HLT.out hk)) (hM5.mono (fun k hk => Nat.le_trans HLT.out hk)) hat hW5
            have HS2 := Aside0.mk hP.1
            have HK2 := Aside0.mk (HK1.out.trans hP.2)
            have hX9 := hP.2.blk HBX1.out (by omega) (hnr _ hbW1)
            obtain ⟨x0, x1, x2, x3, x4, x5, x6⟩ := box7 hX9
            clear hW5 hP hB3 hX3 p0 p1 p2 p3 p4 p5 p6 q0 q1 q2 q3 q4 q5 q6 hown3 hgr hat hBc hXc hT5 hM5 hrow hel hX9 hnews
            refine wpAnyH_done (by kernel_rfl) ?_ _
            go_wp2_with fail
            go_meet
            case rel => exact ⟨HS2, HK2, x0, x1, x2, x3, x4, x5, x6⟩
      · dsimp only [ntO5]
        go_simp
        go_wp2_with (go_at_call 28; (with_reducible refine (et _ hbc).mono ?_); rintro e w5 ⟨r5, rfl, hO5, hb5⟩; obtain ⟨vt, vs5, hr5, hT5, hM5⟩ := hO5; subst hr5; obtain ⟨At, ct, hvt, _, _⟩ := hT5.reads; subst hvt; obtain ⟨Bt, dt, hvs, _, _⟩ := hM5.reads; subst hvs)
        have HLT := Aside0.mk hbc.size
        replace hBc := blk_below hBc hb5
        replace hXc := blk_below hXc hb5
        replace hbc := below_step hbc hb5
        refine hK.out _ _ (by exact box7 hXc) (fun hHeld => ?_)
        clear hK K
        try simp only [Act.put, List.setIfInBounds_toArray, List.set_cons_zero, List.set_cons_succ]
        refine wpAnyH_ready (rs := [3, 7]) (by kernel_rfl) (by simp) ?_
        refine AllReadyH.cons (o := ntO3) rfl (fun K hK => ?_) (AllReadyH.cons (o := ntO7) rfl (fun K hK => ?_) AllReadyH.nil)
        · dsimp only [ntO3]
          have wc0 := (blk_cell hBc 0).trans rfl
          go_simp
          refine hK.out _ _ (by exact box7 hXc) (fun hHeld => ?_)
          clear hK K
          try simp only [Act.put, List.setIfInBounds_toArray, List.set_cons_zero, List.set_cons_succ]
          refine wpAnyH_take (i := 6) (oi := ntO6) (v := ?_) rfl (by kernel_rfl) (by kernel_rfl) (by kernel_rfl) (fun _ _ _ h => h) (Or.inl ⟨by rfl, ?_⟩) (by assumption) ?_
          rotate_left
          · intro w' hSw; (try dsimp only at hSw); (try dsimp only [ntO6]); go_simp; try with_reducible rfl
          try simp only [ntO6]
          try simp only [Act.put, List.setIfInBounds_toArray, List.set_cons_zero, List.set_cons_succ]
          refine wpAnyH_ready (rs := [7]) (by kernel_rfl) (by simp) ?_
          refine AllReadyH.cons (o := ntO7) rfl (fun K hK => ?_) AllReadyH.nil
          dsimp only [ntO7]
          go_simp
          have hbn := below_one (w := w5) (.cells #[.int .u8 0, .string ⟨#[]⟩, .bool false, .string ⟨#[]⟩, .slice none 0 0, .int .i64 0, .slice none 0 0] 27)
          replace hBc := blk_below hBc hbn
          replace hXc := blk_below hXc hbn
          replace hbc := below_step hbc hbn
          have hnews := blk_new w5 (.cells #[.int .u8 0, .string ⟨#[]⟩, .bool false, .string ⟨#[]⟩, .slice none 0 0, .int .i64 0, .slice none 0 0] 27)
          replace hT5 := hT5.later hbn
          replace hM5 := hM5.later hbn
          refine hK.out _ _ (by exact box7 hXc) (fun hHeld => ?_)
          clear hK K
          try simp only [Act.put, List.setIfInBounds_toArray, List.set_cons_zero, List.set_cons_succ]
          obtain ⟨i0, hi0, hz0, hz1, hz2⟩ := info_parts info27
          obtain ⟨inner, tsf, ssf, hrow, hel⟩ := id HV1.out
          have hlow : ∀ k, W1.heap.size ≤ k → w.heap.size ≤ k := fun k hk => Nat.le_trans (Nat.le_of_lt (blk_lt HBX1.out)) hk
          refine wpAnyH_ready (rs := [8]) (by kernel_rfl) (by simp) ?_
          refine AllReadyH.cons (o := ntO8) rfl (fun K hK => ?_) AllReadyH.nil
          refine step_append_lies _ rfl _ _ 25 rfl base 27 i0 _ 7 104 Try.underlying25 hi0 hz0 hz1 hz2 rfl (by decide) (.slice RA vs.length rc) vs.length inner rfl (own_later hrow hbc) ⟨w5.heap.size, 0, none⟩ 1 1 [.int .u8 0, .string ⟨#[]⟩, .bool false, .string ⟨#[]⟩, .slice none 0 0, .int .i64 0, .slice none 0 0] rfl rfl (World.news_of_block hnews) ?hone (by decide) ?h63 ?hby ?hbase _ rfl ?_
          case hone => simp [Value.oneCell']
          case h63 => have := HVL.out; unfold maxLen; omega
          case hby => have := HVL.out; omega
          case hbase => have := hbc.size; have := HBS1.out; omega
          intro g' cap w3 hown3 hgr hat hg3
          have hvb : ∀ k, (Value.slice RA vs.length rc).ownBlock = some k → base ≤ k := fun k hk => own_base hrow k hk
          have hvx : some w.heap.size ≠ (Value.slice RA vs.length rc).ownBlock := fun e => hnr _ hbW1 ⟨_, _, HBW1.out, .inl e.symm⟩
          have hB3 := (hgr.block g (blk_lt hBc) (fun e => by have := hvb g e.symm; omega)).trans hBc
          have hX3 := (hgr.block w.heap.size (blk_lt hXc) hvx).trans hXc
          have hil : inner.length = vs.length * 7 := hrow.1
          have hl1 : (vs.length : Int) < (vs.length : Int) + 1 := by omega
          obtain ⟨p0, p1, p2, p3, p4, p5, p6, q0, q1, q2, q3, q4, q5, q6⟩ := own_cells7 hil hown3
          refine hK.out _ _ (by exact box7 hX3) (fun hHeld => ?_)
          clear hK K
          try simp only [Act.put, List.setIfInBounds_toArray, List.set_cons_zero, List.set_cons_succ]
          refine wpAnyH_take (i := 9) (oi := ntO9) (v := ?_) rfl (by kernel_rfl) (by kernel_rfl) (by kernel_rfl) (fun _ _ _ h => h) (Or.inl ⟨by rfl, ?_⟩) (by assumption) ?_
          rotate_left
          · intro w' hSw; (try dsimp only at hSw); (try dsimp only [ntO9]); go_simp; try with_reducible rfl
          try simp only [ntO9]
          try simp only [Act.put, List.setIfInBounds_toArray, List.set_cons_zero, List.set_cons_succ]
          refine wpAnyH_take (i := 11) (oi := ntO11) (v := ?_) rfl (by kernel_rfl) (by kernel_rfl) (by kernel_rfl) (fun _ _ _ h => h) (Or.inl ⟨by rfl, ?_⟩) (by assumption) ?_
          rotate_left
          · intro w' hSw; (try dsimp only at hSw); (try dsimp only [ntO11]); go_simp; try with_reducible rfl
          try simp only [ntO11]
          try simp only [Act.put, List.setIfInBounds_toArray, List.set_cons_zero, List.set_cons_succ]
          refine wpAnyH_take (i := 12) (oi := ntO12) (v := ?_) rfl (by kernel_rfl) (by kernel_rfl) (by kernel_rfl) (fun _ _ _ h => h) (Or.inl ⟨by rfl, ?_⟩) (by assumption) ?_
          rotate_left
          · intro w' hSw; (try dsimp only at hSw); (try dsimp only [ntO12]); go_simp; try with_reducible rfl
          try simp only [ntO12]
          try simp only [Act.put, List.setIfInBounds_toArray, List.set_cons_zero, List.set_cons_succ]
          have hgg : g ≠ g' := fun e => by
            rcases hat with h | h
            · have := hvb _ h; omega
            · have := blk_lt hBc; omega
          have hxg : w.heap.size ≠ g' := fun e => by
            rcases hat with h | h
            · exact hvx (by rw [e, h])
            · have := blk_lt hXc; omega
          have hxg2 : w.heap.size ≠ g := by omega
          refine wpAnyH_ready (rs := [10, 13]) (by kernel_rfl) (by simp) ?_
          refine AllReadyH.cons (o := ntO10) rfl (fun K hK => ?_) (AllReadyH.cons (o := ntO13) rfl (fun K hK => ?_) AllReadyH.nil)
          · dsimp only [ntO10]
            go_simp
            refine hK.out _ _ (by exact box7 (blk_far (blk_far (blk_far (blk_far (blk_far (blk_far (blk_far (hX3) (by (try dsimp only); exact hxg) _) (by (try dsimp only); exact hxg) _) (by (try dsimp only); exact hxg) _) (by (try dsimp only); exact hxg) _) (by (try dsimp only); exact hxg) _) (by (try dsimp only); exact hxg) _) (by (try dsimp only); exact hxg) _)) (fun hHeld => ?_)
            clear hK K
            try simp only [Act.put, List.setIfInBounds_toArray, List.set_cons_zero, List.set_cons_succ]
            have hB4 : ((((((((w3).setCell ⟨g', vs.length * 7, none⟩ (.int .u8 x.f0)).setCell ⟨g', vs.length * 7 + 1, none⟩ (.string x.f1)).setCell ⟨g', vs.length * 7 + 2, none⟩ (.bool x.f2.f0)).setCell ⟨g', vs.length * 7 + 3, none⟩ (.string x.f2.f1)).setCell ⟨g', vs.length * 7 + 4, none⟩ (.slice At x.f2.f2.length ct)).setCell ⟨g', vs.length * 7 + 5, none⟩ (.int .i64 x.f3)).setCell ⟨g', vs.length * 7 + 6, none⟩ (.slice Bt x.f4.length dt)).heap[g]? = some (.cells #[.slice RA vs.length rc, .slice RB ts.length rd] 126 (0, 0)) := blk_far (blk_far (blk_far (blk_far (blk_far (blk_far (blk_far (hB3) (by (try dsimp only); exact hgg) _) (by (try dsimp only); exact hgg) _) (by (try dsimp only); exact hgg) _) (by (try dsimp only); exact hgg) _) (by (try dsimp only); exact hgg) _) (by (try dsimp only); exact hgg) _) (by (try dsimp only); exact hgg) _
            have wc0 := (blk_cell hB4 0).trans rfl
            have rc0 := blk_frozen hB4 0
            refine wpAnyH_ready (rs := [13]) (by kernel_rfl) (by simp) ?_
            refine AllReadyH.cons (o := ntO13) rfl (fun K hK => ?_) AllReadyH.nil
            dsimp only [ntO13]
            go_simp
            refine hK.out _ _ (by exact box7 (blk_far (blk_far (blk_far (blk_far (blk_far (blk_far (blk_far (blk_far (hX3) (by (try dsimp only); exact hxg) _) (by (try dsimp only); exact hxg) _) (by (try dsimp only); exact hxg) _) (by (try dsimp only); exact hxg) _) (by (try dsimp only); exact hxg) _) (by (try dsimp only); exact hxg) _) (by (try dsimp only); exact hxg) _) (by (try dsimp only); exact hxg2) _)) (fun hHeld => ?_)
            clear hK K
            try simp only [Act.put, List.setIfInBounds_toArray, List.set_cons_zero, List.set_cons_succ]
            clear hB4 wc0 rc0
            have hW5 := Nt_wa (ut := .slice At x.f2.f2.length ct) (us := .slice Bt x.f4.length dt) (x := x) hil hgb (blk_lt hBc) hBc hvb (by have := hbc.size; have := HBS1.out; omega) hown3 hgr hat
            have hP := Nt_push (ts := ts) hgb HBS1.out HBW1.out hrow hel HU1.out hbc (hT5.mono (fun k hk => Nat.le_trans HLT.out hk)) (hM5.mono (fun k hk => Nat.le_trans HLT.out hk)) hat hW5
            have HS2 := Aside0.mk hP.1
            have HK2 := Aside0.mk (HK1.out.trans hP.2)
            have hX9 := hP.2.blk HBX1.out (by omega) (hnr _ hbW1)
            obtain ⟨x0, x1, x2, x3, x4, x5, x6⟩ := box7 hX9
            clear hW5 hP hB3 hX3 p0 p1 p2 p3 p4 p5 p6 q0 q1 q2 q3 q4 q5 q6 hown3 hgr hat hBc hXc hT5 hM5 hrow hel hX9 hnews
            refine wpAnyH_done (by kernel_rfl) ?_ _
            go_wp2_with fail
            go_meet
            case rel => exact ⟨HS2, HK2, x0, x1, x2, x3, x4, x5, x6⟩
          · have wc0 := (blk_cell hB3 0).trans rfl
            have rc0 := blk_frozen hB3 0
            dsimp only [ntO13]
            go_simp
            refine hK.out _ _ (by exact box7 (blk_far hX3 (by (try dsimp only); exact hxg2) _)) (fun hHeld => ?_)
            clear hK K
            try simp only [Act.put, List.setIfInBounds_toArray, List.set_cons_zero, List.set_cons_succ]
            have hown4 := own_move (w1 := w3.setCell ⟨g, 0, none⟩ (.slice (some ⟨g', 0, none⟩) (vs.length + 1) cap)) hown3 (fun k hk => Below.heap_setCell _ _ _ k (own_slice_ne hk hgg))
            clear p0 p1 p2 p3 p4 p5 p6 q0 q1 q2 q3 q4 q5 q6 wc0 rc0
            obtain ⟨p0, p1, p2, p3, p4, p5, p6, q0, q1, q2, q3, q4, q5, q6⟩ := own_cells7 hil hown4
            refine wpAnyH_ready (rs := [10]) (by kernel_rfl) (by simp) ?_
            refine AllReadyH.cons (o := ntO10) rfl (fun K hK => ?_) AllReadyH.nil
            dsimp only [ntO10]
            go_simp
            refine hK.out _ _ (by exact box7 (blk_far (blk_far (blk_far (blk_far (blk_far (blk_far (blk_far ((blk_far hX3 (by (try dsimp only); exact hxg2) _)) (by (try dsimp only); exact hxg) _) (by (try dsimp only); exact hxg) _) (by (try dsimp only); exact hxg) _) (by (try dsimp only); exact hxg) _) (by (try dsimp only); exact hxg) _) (by (try dsimp only); exact hxg) _) (by (try dsimp only); exact hxg) _)) (fun hHeld => ?_)
            clear hK K
            try simp only [Act.put, List.setIfInBounds_toArray, List.set_cons_zero, List.set_cons_succ]
            clear hown4
            have hW5 := Nt_wb (ut := .slice At x.f2.f2.length ct) (us := .slice Bt x.f4.length dt) (x := x) hil hgb (blk_lt hBc) hBc hvb (by have := hbc.size; have := HBS1.out; omega) hown3 hgr hat
            have hP := Nt_push (ts := ts) hgb HBS1.out HBW1.out hrow hel HU1.out hbc (hT5.mono (fun k hk => Nat.le_trans HLT.out hk)) (hM5.mono (fun k hk => Nat.le_trans HLT.out hk)) hat hW5
            have HS2 := Aside0.mk hP.1
            have HK2 := Aside0.mk (HK1.out.trans hP.2)
            have hX9 := hP.2.blk HBX1.out (by omega) (hnr _ hbW1)
            obtain ⟨x0, x1, x2, x3, x4, x5, x6⟩ := box7 hX9
            clear hW5 hP hB3 hX3 p0 p1 p2 p3 p4 p5 p6 q0 q1 q2 q3 q4 q5 q6 hown3 hgr hat hBc hXc hT5 hM5 hrow hel hX9 hnews
            refine wpAnyH_done (by kernel_rfl) ?_ _
            go_wp2_with fail
            go_meet
            case rel => exact ⟨HS2, HK2, x0, x1, x2, x3, x4, x5, x6⟩
        · dsimp only [ntO7]
          go_simp
          have hbn := below_one (w := w5) (.cells #[.int .u8 0, .string ⟨#[]⟩, .bool false, .string ⟨#[]⟩, .slice none 0 0, .int .i64 0, .slice none 0 0] 27)
          replace hBc := blk_below hBc hbn
          replace hXc := blk_below hXc hbn
          replace hbc := below_step hbc hbn
          have hnews := blk_new w5 (.cells #[.int .u8 0, .string ⟨#[]⟩, .bool false, .string ⟨#[]⟩, .slice none 0 0, .int .i64 0, .slice none 0 0] 27)
          replace hT5 := hT5.later hbn
          replace hM5 := hM5.later hbn
          refine hK.out _ _ (by exact box7 hXc) (fun hHeld => ?_)
          clear hK K
          try simp only [Act.put, List.setIfInBounds_toArray, List.set_cons_zero, List.set_cons_succ]
          refine wpAnyH_ready (rs := [3]) (by kernel_rfl) (by simp) ?_
          refine AllReadyH.cons (o := ntO3) rfl (fun K hK => ?_) AllReadyH.nil
          dsimp only [ntO3]
          have wc0 := (blk_cell hBc 0).trans rfl
          go_simp
          refine hK.out _ _ (by exact box7 hXc) (fun hHeld => ?_)
          clear hK K
          try simp only [Act.put, List.setIfInBounds_toArray, List.set_cons_zero, List.set_cons_succ]
          refine wpAnyH_take (i := 6) (oi := ntO6) (v := ?_) rfl (by kernel_rfl) (by kernel_rfl) (by kernel_rfl) (fun _ _ _ h => h) (Or.inl ⟨by rfl, ?_⟩) (by assumption) ?_
          rotate_left
          · intro w' hSw; (try dsimp only at hSw); (try dsimp only [ntO6]); go_simp; try with_reducible rfl
          try simp only [ntO6]
          try simp only [Act.put, List.setIfInBounds_toArray, List.set_cons_zero, List.set_cons_succ]
          obtain ⟨i0, hi0, hz0, hz1, hz2⟩ := info_parts info27
          obtain ⟨inner, tsf, ssf, hrow, hel⟩ := id HV1.out
          have hlow : ∀ k, W1.heap.size ≤ k → w.heap.size ≤ k := fun k hk => Nat.le_trans (Nat.le_of_lt (blk_lt HBX1.out)) hk
          refine wpAnyH_ready (rs := [8]) (by kernel_rfl) (by simp) ?_
          refine AllReadyH.cons (o := ntO8) rfl (fun K hK => ?_) AllReadyH.nil
          refine step_append_lies _ rfl _ _ 25 rfl base 27 i0 _ 7 104 Try.underlying25 hi0 hz0 hz1 hz2 rfl (by decide) (.slice RA vs.length rc) vs.length inner rfl (own_later hrow hbc) ⟨w5.heap.size, 0, none⟩ 1 1 [.int .u8 0, .string ⟨#[]⟩, .bool false, .string ⟨#[]⟩, .slice none 0 0, .int .i64 0, .slice none 0 0] rfl rfl (World.news_of_block hnews) ?hone (by decide) ?h63 ?hby ?hbase _ rfl ?_
          case hone => simp [Value.oneCell']
          case h63 => have := HVL.out; unfold maxLen; omega
          case hby => have := HVL.out; omega
          case hbase => have := hbc.size; have := HBS1.out; omega
          intro g' cap w3 hown3 hgr hat hg3
          have hvb : ∀ k, (Value.slice RA vs.length rc).ownBlock = some k → base ≤ k := fun k hk => own_base hrow k hk
          have hvx : some w.heap.size ≠ (Value.slice RA vs.length rc).ownBlock := fun e => hnr _ hbW1 ⟨_, _, HBW1.out, .inl e.symm⟩
          have hB3 := (hgr.block g (blk_lt hBc) (fun e => by have := hvb g e.symm; omega)).trans hBc
          have hX3 := (hgr.block w.heap.size (blk_lt hXc) hvx).trans hXc
          have hil : inner.length = vs.length * 7 := hrow.1
          have hl1 : (vs.length : Int) < (vs.length : Int) + 1 := by omega
          obtain ⟨p0, p1, p2, p3, p4, p5, p6, q0, q1, q2, q3, q4, q5, q6⟩ := own_cells7 hil hown3
          refine hK.out _ _ (by exact box7 hX3) (fun hHeld => ?_)
          clear hK K
          try simp only [Act.put, List.setIfInBounds_toArray, List.set_cons_zero, List.set_cons_succ]
          refine wpAnyH_take (i := 9) (oi := ntO9) (v := ?_) rfl (by kernel_rfl) (by kernel_rfl) (by kernel_rfl) (fun _ _ _ h => h) (Or.inl ⟨by rfl, ?_⟩) (by assumption) ?_
          rotate_left
          · intro w' hSw; (try dsimp only at hSw); (try dsimp only [ntO9]); go_simp; try with_reducible rfl
          try simp only [ntO9]
          try simp only [Act.put, List.setIfInBounds_toArray, List.set_cons_zero, List.set_cons_succ]
          refine wpAnyH_take (i := 11) (oi := ntO11) (v := ?_) rfl (by kernel_rfl) (by kernel_rfl) (by kernel_rfl) (fun _ _ _ h => h) (Or.inl ⟨by rfl, ?_⟩) (by assumption) ?_
          rotate_left
          · intro w' hSw; (try dsimp only at hSw); (try dsimp only [ntO11]); go_simp; try with_reducible rfl
          try simp only [ntO11]
          try simp only [Act.put, List.setIfInBounds_toArray, List.set_cons_zero, List.set_cons_succ]
          refine wpAnyH_take (i := 12) (oi := ntO12) (v := ?_) rfl (by kernel_rfl) (by kernel_rfl) (by kernel_rfl) (fun _ _ _ h => h) (Or.inl ⟨by rfl, ?_⟩) (by assumption) ?_
          rotate_left
          · intro w' hSw; (try dsimp only at hSw); (try dsimp only [ntO12]); go_simp; try with_reducible rfl
          try simp only [ntO12]
          try simp only [Act.put, List.setIfInBounds_toArray, List.set_cons_zero, List.set_cons_succ]
          have hgg : g ≠ g' := fun e => by
            rcases hat with h | h
            · have := hvb _ h; omega
            · have := blk_lt hBc; omega
          have hxg : w.heap.size ≠ g' := fun e => by
            rcases hat with h | h
            · exact hvx (by rw [e, h])
            · have := blk_lt hXc; omega
          have hxg2 : w.heap.size ≠ g := by omega
          refine wpAnyH_ready (rs := [10, 13]) (by kernel_rfl) (by simp) ?_
          refine AllReadyH.cons (o := ntO10) rfl (fun K hK => ?_) (AllReadyH.cons (o := ntO13) rfl (fun K hK => ?_) AllReadyH.nil)
          · dsimp only [ntO10]
            go_simp
            refine hK.out _ _ (by exact box7 (blk_far (blk_far (blk_far (blk_far (blk_far (blk_far (blk_far (hX3) (by (try dsimp only); exact hxg) _) (by (try dsimp only); exact hxg) _) (by (try dsimp only); exact hxg) _) (by (try dsimp only); exact hxg) _) (by (try dsimp only); exact hxg) _) (by (try dsimp only); exact hxg) _) (by (try dsimp only); exact hxg) _)) (fun hHeld => ?_)
            clear hK K
            try simp only [Act.put, List.setIfInBounds_toArray, List.set_cons_zero, List.set_cons_succ]
            have hB4 : ((((((((w3).setCell ⟨g', vs.length * 7, none⟩ (.int .u8 x.f0)).setCell ⟨g', vs.length * 7 + 1, none⟩ (.string x.f1)).setCell ⟨g', vs.length * 7 + 2, none⟩ (.bool x.f2.f0)).setCell ⟨g', vs.length * 7 + 3, none⟩ (.string x.f2.f1)).setCell ⟨g', vs.length * 7 + 4, none⟩ (.slice At x.f2.f2.length ct)).setCell ⟨g', vs.length * 7 + 5, none⟩ (.int .i64 x.f3)).setCell ⟨g', vs.length * 7 + 6, none⟩ (.slice Bt x.f4.length dt)).heap[g]? = some (.cells #[.slice RA vs.length rc, .slice RB ts.length rd] 126 (0, 0)) := blk_far (blk_far (blk_far (blk_far (blk_far (blk_far (blk_far (hB3) (by (try dsimp only); exact hgg) _) (by (try dsimp only); exact hgg) _) (by (try dsimp only); exact hgg) _) (by (try dsimp only); exact hgg) _) (by (try dsimp only); exact hgg) _) (by (try dsimp only); exact hgg) _) (by (try dsimp only); exact hgg) _
            have wc0 := (blk_cell hB4 0).trans rfl
            have rc0 := blk_frozen hB4 0
            refine wpAnyH_ready (rs := [13]) (by kernel_rfl) (by simp) ?_
            refine AllReadyH.cons (o := ntO13) rfl (fun K hK => ?_) AllReadyH.nil
            dsimp only [ntO13]
            go_simp
            refine hK.out _ _ (by exact box7 (blk_far (blk_far (blk_far (blk_far (blk_far (blk_far (blk_far (blk_far (hX3) (by (try dsimp only); exact hxg) _) (by (try dsimp only); exact hxg) _) (by (try dsimp only); exact hxg) _) (by (try dsimp only); exact hxg) _) (by (try dsimp only); exact hxg) _) (by (try dsimp only); exact hxg) _) (by (try dsimp only); exact hxg) _) (by (try dsimp only); exact hxg2) _)) (fun hHeld => ?_)
            clear hK K
            try simp only [Act.put, List.setIfInBounds_toArray, List.set_cons_zero, List.set_cons_succ]
            clear hB4 wc0 rc0
            have hW5 := Nt_wa (ut := .slice At x.f2.f2.length ct) (us := .slice Bt x.f4.length dt) (x := x) hil hgb (blk_lt hBc) hBc hvb (by have := hbc.size; have := HBS1.out; omega) hown3 hgr hat
            have hP := Nt_push (ts := ts) hgb HBS1.out HBW1.out hrow hel HU1.out hbc (hT5.mono (fun k hk => Nat.le_trans HLT.out hk)) (hM5.mono (fun k hk => Nat.le_trans HLT.out hk)) hat hW5
            have HS2 := Aside0.mk hP.1
            have HK2 := Aside0.mk (HK1.out.trans hP.2)
            have hX9 := hP.2.blk HBX1.out (by omega) (hnr _ hbW1)
            obtain ⟨x0, x1, x2, x3, x4, x5, x6⟩ := box7 hX9
            clear hW5 hP hB3 hX3 p0 p1 p2 p3 p4 p5 p6 q0 q1 q2 q3 q4 q5 q6 hown3 hgr hat hBc hXc hT5 hM5 hrow hel hX9 hnews
            refine wpAnyH_done (by kernel_rfl) ?_ _
            go_wp2_with fail
            go_meet
            case rel => exact ⟨HS2, HK2, x0, x1, x2, x3, x4, x5, x6⟩
          · have wc0 := (blk_cell hB3 0).trans rfl
            have rc0 := blk_frozen hB3 0
            dsimp only [ntO13]
            go_simp
            refine hK.out _ _ (by exact box7 (blk_far hX3 (by (try dsimp only); exact hxg2) _)) (fun hHeld => ?_)
            clear hK K
            try simp only [Act.put, List.setIfInBounds_toArray, List.set_cons_zero, List.set_cons_succ]
            have hown4 := own_move (w1 := w3.setCell ⟨g, 0, none⟩ (.slice (some ⟨g', 0, none⟩) (vs.length + 1) cap)) hown3 (fun k hk => Below.heap_setCell _ _ _ k (own_slice_ne hk hgg))
            clear p0 p1 p2 p3 p4 p5 p6 q0 q1 q2 q3 q4 q5 q6 wc0 rc0
            obtain ⟨p0, p1, p2, p3, p4, p5, p6, q0, q1, q2, q3, q4, q5, q6⟩ := own_cells7 hil hown4
            refine wpAnyH_ready (rs := [10]) (by kernel_rfl) (by simp) ?_
            refine AllReadyH.cons (o := ntO10) rfl (fun K hK => ?_) AllReadyH.nil
            dsimp only [ntO10]
            go_simp
            refine hK.out _ _ (by exact box7 (blk_far (blk_far (blk_far (blk_far (blk_far (blk_far (blk_far ((blk_far hX3 (by (try dsimp only); exact hxg2) _)) (by (try dsimp only); exact hxg) _) (by (try dsimp only); exact hxg) _) (by (try dsimp only); exact hxg) _) (by (try dsimp only); exact hxg) _) (by (try dsimp only); exact hxg) _) (by (try dsimp only); exact hxg) _) (by (try dsimp only); exact hxg) _)) (fun hHeld => ?_)
            clear hK K
            try simp only [Act.put, List.setIfInBounds_toArray, List.set_cons_zero, List.set_cons_succ]
            clear hown4
            have hW5 := Nt_wb (ut := .slice At x.f2.f2.length ct) (us := .slice Bt x.f4.length dt) (x := x) hil hgb (blk_lt hBc) hBc hvb (by have := hbc.size; have := HBS1.out; omega) hown3 hgr hat
            have hP := Nt_push (ts := ts) hgb HBS1.out HBW1.out hrow hel HU1.out hbc (hT5.mono (fun k hk => Nat.le_trans HLT.out hk)) (hM5.mono (fun k hk => Nat.le_trans HLT.out hk)) hat hW5
            have HS2 := Aside0.mk hP.1
            have HK2 := Aside0.mk (HK1.out.trans hP.2)
            have hX9 := hP.2.blk HBX1.out (by omega) (hnr _ hbW1)
            obtain ⟨x0, x1, x2, x3, x4, x5, x6⟩ := box7 hX9
            clear hW5 hP hB3 hX3 p0 p1 p2 p3 p4 p5 p6 q0 q1 q2 q3 q4 q5 q6 hown3 hgr hat hBc hXc hT5 hM5 hrow hel hX9 hnews
            refine wpAnyH_done (by kernel_rfl) ?_ _
            go_wp2_with fail
            go_meet
            case rel => exact ⟨HS2, HK2, x0, x1, x2, x3, x4, x5, x6⟩
      · dsimp only [ntO7]
        go_simp
        replace hbc := below_drew1 (below_one (w := W1) (.cells #[.int .u8 0, .string ⟨#[]⟩, .bool false, .string ⟨#[]⟩, .slice none 0 0, .int .i64 0, .slice none 0 0] 27))
        replace hBc := blk_below HBW1.out hbc
        replace hXc := blk_below HBX1.out hbc
        have hnews := blk_below (blk_new W1 (.cells #[.int .u8 0, .string ⟨#[]⟩, .bool false, .string ⟨#[]⟩, .slice none 0 0, .int .i64 0, .slice none 0 0] 27)) (below_drew1 (Below.refl _ _))
        refine hK.out _ _ (by exact box7 hXc) (fun hHeld => ?_)
        clear hK K
        try simp only [Act.put, List.setIfInBounds_toArray, List.set_cons_zero, List.set_cons_succ]
        refine wpAnyH_ready (rs := [3, 5]) (by kernel_rfl) (by simp) ?_
        refine AllReadyH.cons (o := ntO3) rfl (fun K hK => ?_) (AllReadyH.cons (o := ntO5) rfl (fun K hK => ?_) AllReadyH.nil)
        · dsimp only [ntO3]
          have wc0 := (blk_cell hBc 0).trans rfl
          go_simp
          refine hK.out _ _ (by exact box7 hXc) (fun hHeld => ?_)
          clear hK K
          try simp only [Act.put, List.setIfInBounds_toArray, List.set_cons_zero, List.set_cons_succ]
          refine wpAnyH_take (i := 6) (oi := ntO6) (v := ?_) rfl (by kernel_rfl) (by kernel_rfl) (by kernel_rfl) (fun _ _ _ h => h) (Or.inl ⟨by rfl, ?_⟩) (by assumption) ?_
          rotate_left
          · intro w' hSw; (try dsimp only at hSw); (try dsimp only [ntO6]); go_simp; try with_reducible rfl
          try simp only [ntO6]
          try simp only [Act.put, List.setIfInBounds_toArray, List.set_cons_zero, List.set_cons_succ]
          refine wpAnyH_ready (rs := [5]) (by kernel_rfl) (by simp) ?_
          refine AllReadyH.cons (o := ntO5) rfl (fun K hK => ?_) AllReadyH.nil
          dsimp only [ntO5]
          go_simp
          go_wp2_with (go_at_call 28; (with_reducible refine (et _ hbc).mono ?_); rintro e w5 ⟨r5, rfl, hO5, hb5⟩; obtain ⟨vt, vs5, hr5, hT5, hM5⟩ := hO5; subst hr5; obtain ⟨At, ct, hvt, _, _⟩ := hT5.reads; subst hvt; obtain ⟨Bt, dt, hvs, _, _⟩ := hM5.reads; subst hvs)
          have HLT := Aside0.mk hbc.size
          replace hBc := blk_below hBc hb5
          replace hXc := blk_below hXc hb5
          have hnews := blk_below hnews hb5
          replace hbc := below_step hbc hb5
          refine hK.out _ _ (by exact box7 hXc) (fun hHeld => ?_)
          clear hK K
          try simp only [Act.put, List.setIfInBounds_toArray, List.set_cons_zero, List.set_cons_succ]
          obtain ⟨i0, hi0, hz0, hz1, hz2⟩ := info_parts info27
          obtain ⟨inner, tsf, ssf, hrow, hel⟩ := id HV1.out
          have hlow : ∀ k, W1.heap.size ≤ k → w.heap.size ≤ k := fun k hk => Nat.le_trans (Nat.le_of_lt (blk_lt HBX1.out)) hk
          refine wpAnyH_ready (rs := [8]) (by kernel_rfl) (by simp) ?_
          refine AllReadyH.cons (o := ntO8) rfl (fun K hK => ?_) AllReadyH.nil
          refine step_append_lies _ rfl _ _ 25 rfl base 27 i0 _ 7 104 Try.underlying25 hi0 hz0 hz1 hz2 rfl (by decide) (.slice RA vs.length rc) vs.length inner rfl (own_later hrow hbc) ⟨W1.heap.size, 0, none⟩ 1 1 [.int .u8 0, .string ⟨#[]⟩, .bool false, .string ⟨#[]⟩, .slice none 0 0, .int .i64 0, .slice none 0 0] rfl rfl (World.news_of_block hnews) ?hone (by decide) ?h63 ?hby ?hbase _ rfl ?_
          case hone => simp [Value.oneCell']
          case h63 => have := HVL.out; unfold maxLen; omega
          case hby => have := HVL.out; omega
          case hbase => have := hbc.size; have := HBS1.out; omega
          intro g' cap w3 hown3 hgr hat hg3
          have hvb : ∀ k, (Value.slice RA vs.length rc).ownBlock = some k → base ≤ k := fun k hk => own_base hrow k hk
          have hvx : some w.heap.size ≠ (Value.slice RA vs.length rc).ownBlock := fun e => hnr _ hbW1 ⟨_, _, HBW1.out, .inl e.symm⟩
          have hB3 := (hgr.block g (blk_lt hBc) (fun e => by have := hvb g e.symm; omega)).trans hBc
          have hX3 := (hgr.block w.heap.size (blk_lt hXc) hvx).trans hXc
          have hil : inner.length = vs.length * 7 := hrow.1
          have hl1 : (vs.length : Int) < (vs.length : Int) + 1 := by omega
          obtain ⟨p0, p1, p2, p3, p4, p5, p6, q0, q1, q2, q3, q4, q5, q6⟩ := own_cells7 hil hown3
          refine hK.out _ _ (by exact box7 hX3) (fun hHeld => ?_)
          clear hK K
          try simp only [Act.put, List.setIfInBounds_toArray, List.set_cons_zero, List.set_cons_succ]
          refine wpAnyH_take (i := 9) (oi := ntO9) (v := ?_) rfl (by kernel_rfl) (by kernel_rfl) (by kernel_rfl) (fun _ _ _ h => h) (Or.inl ⟨by rfl, ?_⟩) (by assumption) ?_
          rotate_left
          · intro w' hSw; (try dsimp only at hSw); (try dsimp only [ntO9]); go_simp; try with_reducible rfl
          try simp only [ntO9]
          try simp only [Act.put, List.setIfInBounds_toArray, List.set_cons_zero, List.set_cons_succ]
          refine wpAnyH_take (i := 11) (oi := ntO11) (v := ?_) rfl (by kernel_rfl) (by kernel_rfl) (by kernel_rfl) (fun _ _ _ h => h) (Or.inl ⟨by rfl, ?_⟩) (by assumption) ?_
          rotate_left
          · intro w' hSw; (try dsimp only at hSw); (try dsimp only [ntO11]); go_simp; try with_reducible rfl
          try simp only [ntO11]
          try simp only [Act.put, List.setIfInBounds_toArray, List.set_cons_zero, List.set_cons_succ]
          refine wpAnyH_take (i := 12) (oi := ntO12) (v := ?_) rfl (by kernel_rfl) (by kernel_rfl) (by kernel_rfl) (fun _ _ _ h => h) (Or.inl ⟨by rfl, ?_⟩) (by assumption) ?_
          rotate_left
          · intro w' hSw; (try dsimp only at hSw); (try dsimp only [ntO12]); go_simp; try with_reducible rfl
          try simp only [ntO12]
          try simp only [Act.put, List.setIfInBounds_toArray, List.set_cons_zero, List.set_cons_succ]
          have hgg : g ≠ g' := fun e => by
            rcases hat with h | h
            · have := hvb _ h; omega
            · have := blk_lt hBc; omega
          have hxg : w.heap.size ≠ g' := fun e => by
            rcases hat with h | h
            · exact hvx (by rw [e, h])
            · have := blk_lt hXc; omega
          have hxg2 : w.heap.size ≠ g := by omega
          refine wpAnyH_ready (rs := [10, 13]) (by kernel_rfl) (by simp) ?_
          refine AllReadyH.cons (o := ntO10) rfl (fun K hK => ?_) (AllReadyH.cons (o := ntO13) rfl (fun K hK => ?_) AllReadyH.nil)
          · dsimp only [ntO10]
            go_simp
            refine hK.out _ _ (by exact box7 (blk_far (blk_far (blk_far (blk_far (blk_far (blk_far (blk_far (hX3) (by (try dsimp only); exact hxg) _) (by (try dsimp only); exact hxg) _) (by (try dsimp only); exact hxg) _) (by (try dsimp only); exact hxg) _) (by (try dsimp only); exact hxg) _) (by (try dsimp only); exact hxg) _) (by (try dsimp only); exact hxg) _)) (fun hHeld => ?_)
            clear hK K
            try simp only [Act.put, List.setIfInBounds_toArray, List.set_cons_zero, List.set_cons_succ]
            have hB4 : ((((((((w3).setCell ⟨g', vs.length * 7, none⟩ (.int .u8 x.f0)).setCell ⟨g', vs.length * 7 + 1, none⟩ (.string x.f1)).setCell ⟨g', vs.length * 7 + 2, none⟩ (.bool x.f2.f0)).setCell ⟨g', vs.length * 7 + 3, none⟩ (.string x.f2.f1)).setCell ⟨g', vs.length * 7 + 4, none⟩ (.slice At x.f2.f2.length ct)).setCell ⟨g', vs.length * 7 + 5, none⟩ (.int .i64 x.f3)).setCell ⟨g', vs.length * 7 + 6, none⟩ (.slice Bt x.f4.length dt)).heap[g]? = some (.cells #[.slice RA vs.length rc, .slice RB ts.length rd] 126 (0, 0)) := blk_far (blk_far (blk_far (blk_far (blk_far (blk_far (blk_far (hB3) (by (try dsimp only); exact hgg) _) (by (try dsimp only); exact hgg) _) (by (try dsimp only); exact hgg) _) (by (try dsimp only); exact hgg) _) (by (try dsimp only); exact hgg) _) (by (try dsimp only); exact hgg) _) (by (try dsimp only); exact hgg) _
            have wc0 := (blk_cell hB4 0).trans rfl
            have rc0 := blk_frozen hB4 0
            refine wpAnyH_ready (rs := [13]) (by kernel_rfl) (by simp) ?_
            refine AllReadyH.cons (o := ntO13) rfl (fun K hK => ?_) AllReadyH.nil
            dsimp only [ntO13]
            go_simp
            refine hK.out _ _ (by exact box7 (blk_far (blk_far (blk_far (blk_far (blk_far (blk_far (blk_far (blk_far (hX3) (by (try dsimp only); exact hxg) _) (by (try dsimp only); exact hxg) _) (by (try dsimp only); exact hxg) _) (by (try dsimp only); exact hxg) _) (by (try dsimp only); exact hxg) _) (by (try dsimp only); exact hxg) _) (by (try dsimp only); exact hxg) _) (by (try dsimp only); exact hxg2) _)) (fun hHeld => ?_)
            clear hK K
            try simp only [Act.put, List.setIfInBounds_toArray, List.set_cons_zero, List.set_cons_succ]
            clear hB4 wc0 rc0
            have hW5 := Nt_wa (ut := .slice At x.f2.f2.length ct) (us := .slice Bt x.f4.length dt) (x := x) hil hgb (blk_lt hBc) hBc hvb (by have := hbc.size; have := HBS1.out; omega) hown3 hgr hat
            have hP := Nt_push (ts := ts) hgb HBS1.out HBW1.out hrow hel HU1.out hbc (hT5.mono (fun k hk => Nat.le_trans HLT.out hk)) (hM5.mono (fun k hk => Nat.le_trans HLT.out hk)) hat hW5
            have HS2 := Aside0.mk hP.1
            have HK2 := Aside0.mk (HK1.out.trans hP.2)
            have hX9 := hP.2.blk HBX1.out (by omega) (hnr _ hbW1)
            obtain ⟨x0, x1, x2, x3, x4, x5, x6⟩ := box7 hX9
            clear hW5 hP hB3 hX3 p0 p1 p2 p3 p4 p5 p6 q0 q1 q2 q3 q4 q5 q6 hown3 hgr hat hBc hXc hT5 hM5 hrow hel hX9 hnews
            refine wpAnyH_done (by kernel_rfl) ?_ _
            go_wp2_with fail
            go_meet
            case rel => exact ⟨HS2, HK2, x0, x1, x2, x3, x4, x5, x6⟩
          · have wc0 := (blk_cell hB3 0).trans rfl
            have rc0 := blk_frozen hB3 0
            dsimp only [ntO13]
            go_simp
            refine hK.out _ _ (by exact box7 (blk_far hX3 (by (try dsimp only); exact hxg2) _)) (fun hHeld => ?_)
            clear hK K
            try simp only [Act.put, List.setIfInBounds_toArray, List.set_cons_zero, List.set_cons_succ]
            have hown4 := own_move (w1 := w3.setCell ⟨g, 0, none⟩ (.slice (some ⟨g', 0, none⟩) (vs.length + 1) cap)) hown3 (fun k hk => Below.heap_setCell _ _ _ k (own_slice_ne hk hgg))
            clear p0 p1 p2 p3 p4 p5 p6 q0 q1 q2 q3 q4 q5 q6 wc0 rc0
            obtain ⟨p0, p1, p2, p3, p4, p5, p6, q0, q1, q2, q3, q4, q5, q6⟩ := own_cells7 hil hown4
            refine wpAnyH_ready (rs := [10]) (by kernel_rfl) (by simp) ?_
            refine AllReadyH.cons (o := ntO10) rfl (fun K hK => ?_) AllReadyH.nil
            dsimp only [ntO10]
            go_simp
            refine hK.out _ _ (by exact box7 (blk_far (blk_far (blk_far (blk_far (blk_far (blk_far (blk_far ((blk_far hX3 (by (try dsimp only); exact hxg2) _)) (by (try dsimp only); exact hxg) _) (by (try dsimp only); exact hxg) _) (by (try dsimp only); exact hxg) _) (by (try dsimp only); exact hxg) _) (by (try dsimp only); exact hxg) _) (by (try dsimp only); exact hxg) _) (by (try dsimp only); exact hxg) _)) (fun hHeld => ?_)
            clear hK K
            try simp only [Act.put, List.setIfInBounds_toArray, List.set_cons_zero, List.set_cons_succ]
            clear hown4
            have hW5 := Nt_wb (ut := .slice At x.f2.f2.length ct) (us := .slice Bt x.f4.length dt) (x := x) hil hgb (blk_lt hBc) hBc hvb (by have := hbc.size; have := HBS1.out; omega) hown3 hgr hat
            have hP := Nt_push (ts := ts) hgb HBS1.out HBW1.out hrow hel HU1.out hbc (hT5.mono (fun k hk => Nat.le_trans HLT.out hk)) (hM5.mono (fun k hk => Nat.le_trans HLT.out hk)) hat hW5
            have HS2 := Aside0.mk hP.1
            have HK2 := Aside0.mk (HK1.out.trans hP.2)
            have hX9 := hP.2.blk HBX1.out (by omega) (hnr _ hbW1)
            obtain ⟨x0, x1, x2, x3, x4, x5, x6⟩ := box7 hX9
            clear hW5 hP hB3 hX3 p0 p1 p2 p3 p4 p5 p6 q0 q1 q2 q3 q4 q5 q6 hown3 hgr hat hBc hXc hT5 hM5 hrow hel hX9 hnews
            refine wpAnyH_done (by kernel_rfl) ?_ _
            go_wp2_with fail
            go_meet
            case rel => exact ⟨HS2, HK2, x0, x1, x2, x3, x4, x5, x6⟩
        · dsimp only [ntO5]
          go_simp
          go_wp2_with (go_at_call 28; (with_reducible refine (et _ hbc).mono ?_); rintro e w5 ⟨r5, rfl, hO5, hb5⟩; obtain ⟨vt, vs5, hr5, hT5, hM5⟩ := hO5; subst hr5; obtain ⟨At, ct, hvt, _, _⟩ := hT5.reads; subst hvt; obtain ⟨Bt, dt, hvs, _, _⟩ := hM5.reads; subst hvs)
          have HLT := Aside0.mk hbc.size
          replace hBc := blk_below hBc hb5
          replace hXc := blk_below hXc hb5
          have hnews := blk_below hnews hb5
          replace hbc := below_step hbc hb5
          refine hK.out _ _ (by exact box7 hXc) (fun hHeld => ?_)
          clear hK K
          try simp only [Act.put, List.setIfInBounds_toArray, List.set_cons_zero, List.set_cons_succ]
          refine wpAnyH_ready (rs := [3]) (by kernel_rfl) (by simp) ?_
          refine AllReadyH.cons (o := ntO3) rfl (fun K hK => ?_) AllReadyH.nil
          dsimp only [ntO3]
          have wc0 := (blk_cell hBc 0).trans rfl
          go_simp
          refine hK.out _ _ (by exact box7 hXc) (fun hHeld => ?_)
          clear hK K
          try simp only [Act.put, List.setIfInBounds_toArray, List.set_cons_zero, List.set_cons_succ]
          refine wpAnyH_take (i := 6) (oi := ntO6) (v := ?_) rfl (by kernel_rfl) (by kernel_rfl) (by kernel_rfl) (fun _ _ _ h => h) (Or.inl ⟨by rfl, ?_⟩) (by assumption) ?_
          rotate_left
          · intro w' hSw; (try dsimp only at hSw); (try dsimp only [ntO6]); go_simp; try with_reducible rfl
          try simp only [ntO6]
          try simp only [Act.put, List.setIfInBounds_toArray, List.set_cons_zero, List.set_cons_succ]
          obtain ⟨i0, hi0, hz0, hz1, hz2⟩ := info_parts info27
          obtain ⟨inner, tsf, ssf, hrow, hel⟩ := id HV1.out
          have hlow : ∀ k, W1.heap.size ≤ k → w.heap.size ≤ k := fun k hk => Nat.le_trans (Nat.le_of_lt (blk_lt HBX1.out)) hk
          refine wpAnyH_ready (rs := [8]) (by kernel_rfl) (by simp) ?_
          refine AllReadyH.cons (o := ntO8) rfl (fun K hK => ?_) AllReadyH.nil
          refine step_append_lies _ rfl _ _ 25 rfl base 27 i0 _ 7 104 Try.underlying25 hi0 hz0 hz1 hz2 rfl (by decide) (.slice RA vs.length rc) vs.length inner rfl (own_later hrow hbc) ⟨W1.heap.size, 0, none⟩ 1 1 [.int .u8 0, .string ⟨#[]⟩, .bool false, .string ⟨#[]⟩, .slice none 0 0, .int .i64 0, .slice none 0 0] rfl rfl (World.news_of_block hnews) ?hone (by decide) ?h63 ?hby ?hbase _ rfl ?_
          case hone => simp [Value.oneCell']
          case h63 => have := HVL.out; unfold maxLen; omega
          case hby => have := HVL.out; omega
          case hbase => have := hbc.size; have := HBS1.out; omega
          intro g' cap w3 hown3 hgr hat hg3
          have hvb : ∀ k, (Value.slice RA vs.length rc).ownBlock = some k → base ≤ k := fun k hk => own_base hrow k hk
          have hvx : some w.heap.size ≠ (Value.slice RA vs.length rc).ownBlock := fun e => hnr _ hbW1 ⟨_, _, HBW1.out, .inl e.symm⟩
          have hB3 := (hgr.block g (blk_lt hBc) (fun e => by have := hvb g e.symm; omega)).trans hBc
          have hX3 := (hgr.block w.heap.size (blk_lt hXc) hvx).trans hXc
          have hil : inner.length = vs.length * 7 := hrow.1
          have hl1 : (vs.length : Int) < (vs.length : Int) + 1 := by omega
          obtain ⟨p0, p1, p2, p3, p4, p5, p6, q0, q1, q2, q3, q4, q5, q6⟩ := own_cells7 hil hown3
          refine hK.out _ _ (by exact box7 hX3) (fun hHeld => ?_)
          clear hK K
          try simp only [Act.put, List.setIfInBounds_toArray, List.set_cons_zero, List.set_cons_succ]
          refine wpAnyH_take (i := 9) (oi := ntO9) (v := ?_) rfl (by kernel_rfl) (by kernel_rfl) (by kernel_rfl) (fun _ _ _ h => h) (Or.inl ⟨by rfl, ?_⟩) (by assumption) ?_
          rotate_left
          · intro w' hSw; (try dsimp only at hSw); (try dsimp only [ntO9]); go_simp; try with_reducible rfl
          try simp only [ntO9]
          try simp only [Act.put, List.setIfInBounds_toArray, List.set_cons_zero, List.set_cons_succ]
          refine wpAnyH_take (i := 11) (oi := ntO11) (v := ?_) rfl (by kernel_rfl) (by kernel_rfl) (by kernel_rfl) (fun _ _ _ h => h) (Or.inl ⟨by rfl, ?_⟩) (by assumption) ?_
          rotate_left
          · intro w' hSw; (try dsimp only at hSw); (try dsimp only [ntO11]); go_simp; try with_reducible rfl
          try simp only [ntO11]
          try simp only [Act.put, List.setIfInBounds_toArray, List.set_cons_zero, List.set_cons_succ]
          refine wpAnyH_take (i := 12) (oi := ntO12) (v := ?_) rfl (by kernel_rfl) (by kernel_rfl) (by kernel_rfl) (fun _ _ _ h => h) (Or.inl ⟨by rfl, ?_⟩) (by assumption) ?_
          rotate_left
          · intro w' hSw; (try dsimp only at hSw); (try dsimp only [ntO12]); go_simp; try with_reducible rfl
          try simp only [ntO12]
          try simp only [Act.put, List.setIfInBounds_toArray, List.set_cons_zero, List.set_cons_succ]
          have hgg : g ≠ g' := fun e => by
            rcases hat with h | h
            · have := hvb _ h; omega
            · have := blk_lt hBc; omega
          have hxg : w.heap.size ≠ g' := fun e => by
            rcases hat with h | h
            · exact hvx (by rw [e, h])
            · have := blk_lt hXc; omega
          have hxg2 : w.heap.size ≠ g := by omega
          refine wpAnyH_ready (rs := [10, 13]) (by kernel_rfl) (by simp) ?_
          refine AllReadyH.cons (o := ntO10) rfl (fun K hK => ?_) (AllReadyH.cons (o := ntO13) rfl (fun K hK => ?_) AllReadyH.nil)
          · dsimp only [ntO10]
            go_simp
            refine hK.out _ _ (by exact box7 (blk_far (blk_far (blk_far (blk_far (blk_far (blk_far (blk_far (hX3) (by (try dsimp only); exact hxg) _) (by (try dsimp only); exact hxg) _) (by (try dsimp only); exact hxg) _) (by (try dsimp only); exact hxg) _) (by (try dsimp only); exact hxg) _) (by (try dsimp only); exact hxg) _) (by (try dsimp only); exact hxg) _)) (fun hHeld => ?_)
            clear hK K
            try simp only [Act.put, List.setIfInBounds_toArray, List.set_cons_zero, List.set_cons_succ]
            have hB4 : ((((((((w3).setCell ⟨g', vs.length * 7, none⟩ (.int .u8 x.f0)).setCell ⟨g', vs.length * 7 + 1, none⟩ (.string x.f1)).setCell ⟨g', vs.length * 7 + 2, none⟩ (.bool x.f2.f0)).setCell ⟨g', vs.length * 7 + 3, none⟩ (.string x.f2.f1)).setCell ⟨g', vs.length * 7 + 4, none⟩ (.slice At x.f2.f2.length ct)).setCell ⟨g', vs.length * 7 + 5, none⟩ (.int .i64 x.f3)).setCell ⟨g', vs.length * 7 + 6, none⟩ (.slice Bt x.f4.length dt)).heap[g]? = some (.cells #[.slice RA vs.length rc, .slice RB ts.length rd] 126 (0, 0)) := blk_far (blk_far (blk_far (blk_far (blk_far (blk_far (blk_far (hB3) (by (try dsimp only); exact hgg) _) (by (try dsimp only); exact hgg) _) (by (try dsimp only); exact hgg) _) (by (try dsimp only); exact hgg) _) (by (try dsimp only); exact hgg) _) (by (try dsimp only); exact hgg) _) (by (try dsimp only); exact hgg) _
            have wc0 := (blk_cell hB4 0).trans rfl
            have rc0 := blk_frozen hB4 0
            refine wpAnyH_ready (rs := [13]) (by kernel_rfl) (by simp) ?_
            refine AllReadyH.cons (o := ntO13) rfl (fun K hK => ?_) AllReadyH.nil
            dsimp only [ntO13]
            go_simp
            refine hK.out _ _ (by exact box7 (blk_far (blk_far (blk_far (blk_far (blk_far (blk_far (blk_far (blk_far (hX3) (by (try dsimp only); exact hxg) _) (by (try dsimp only); exact hxg) _) (by (try dsimp only); exact hxg) _) (by (try dsimp only); exact hxg) _) (by (try dsimp only); exact hxg) _) (by (try dsimp only); exact hxg) _) (by (try dsimp only); exact hxg) _) (by (try dsimp only); exact hxg2) _)) (fun hHeld => ?_)
            clear hK K
            try simp only [Act.put, List.setIfInBounds_toArray, List.set_cons_zero, List.set_cons_succ]
            clear hB4 wc0 rc0
            have hW5 := Nt_wa (ut := .slice At x.f2.f2.length ct) (us := .slice Bt x.f4.length dt) (x := x) hil hgb (blk_lt hBc) hBc hvb (by have := hbc.size; have := HBS1.out; omega) hown3 hgr hat
            have hP := Nt_push (ts := ts) hgb HBS1.out HBW1.out hrow hel HU1.out hbc (hT5.mono (fun k hk => Nat.le_trans HLT.out hk)) (hM5.mono (fun k hk => Nat.le_trans HLT.out hk)) hat hW5
            have HS2 := Aside0.mk hP.1
            have HK2 := Aside0.mk (HK1.out.trans hP.2)
            have hX9 := hP.2.blk HBX1.out (by omega) (hnr _ hbW1)
            obtain ⟨x0, x1, x2, x3, x4, x5, x6⟩ := box7 hX9
            clear hW5 hP hB3 hX3 p0 p1 p2 p3 p4 p5 p6 q0 q1 q2 q3 q4 q5 q6 hown3 hgr hat hBc hXc hT5 hM5 hrow hel hX9 hnews
            refine wpAnyH_done (by kernel_rfl) ?_ _
            go_wp2_with fail
            go_meet
            case rel => exact ⟨HS2, HK2, x0, x1, x2, x3, x4, x5, x6⟩
          · have wc0 := (blk_cell hB3 0).trans rfl
            have rc0 := blk_frozen hB3 0
            dsimp only [ntO13]
            go_simp
            refine hK.out _ _ (by exact box7 (blk_far hX3 (by (try dsimp only); exact hxg2) _)) (fun hHeld => ?_)
            clear hK K
            try simp only [Act.put, List.setIfInBounds_toArray, List.set_cons_zero, List.set_cons_succ]
            have hown4 := own_move (w1 := w3.setCell ⟨g, 0, none⟩ (.slice (some ⟨g', 0, none⟩) (vs.length + 1) cap)) hown3 (fun k hk => Below.heap_setCell _ _ _ k (own_slice_ne hk hgg))
            clear p0 p1 p2 p3 p4 p5 p6 q0 q1 q2 q3 q4 q5 q6 wc0 rc0
            obtain ⟨p0, p1, p2, p3, p4, p5, p6, q0, q1, q2, q3, q4, q5, q6⟩ := own_cells7 hil hown4
            refine wpAnyH_ready (rs := [10]) (by kernel_rfl) (by simp) ?_
            refine AllReadyH.cons (o := ntO10) rfl (fun K hK => ?_) AllReadyH.nil
            dsimp only [ntO10]
            go_simp
            refine hK.out _ _ (by exact box7 (blk_far (blk_far (blk_far (blk_far (blk_far (blk_far (blk_far ((blk_far hX3 (by (try dsimp only); exact hxg2) _)) (by (try dsimp only); exact hxg) _) (by (try dsimp only); exact hxg) _) (by (try dsimp only); exact hxg) _) (by (try dsimp only); exact hxg) _) (by (try dsimp only); exact hxg) _) (by (try dsimp only); exact hxg) _) (by (try dsimp only); exact hxg) _)) (fun hHeld => ?_)
            clear hK K
            try simp only [Act.put, List.setIfInBounds_toArray, List.set_cons_zero, List.set_cons_succ]
            clear hown4
            have hW5 := Nt_wb (ut := .slice At x.f2.f2.length ct) (us := .slice Bt x.f4.length dt) (x := x) hil hgb (blk_lt hBc) hBc hvb (by have := hbc.size; have := HBS1.out; omega) hown3 hgr hat
            have hP := Nt_push (ts := ts) hgb HBS1.out HBW1.out hrow hel HU1.out hbc (hT5.mono (fun k hk => Nat.le_trans HLT.out hk)) (hM5.mono (fun k hk => Nat.le_trans HLT.out hk)) hat hW5
            have HS2 := Aside0.mk hP.1
            have HK2 := Aside0.mk (HK1.out.trans hP.2)
            have hX9 := hP.2.blk HBX1.out (by omega) (hnr _ hbW1)
            obtain ⟨x0, x1, x2, x3, x4, x5, x6⟩ := box7 hX9
            clear hW5 hP hB3 hX3 p0 p1 p2 p3 p4 p5 p6 q0 q1 q2 q3 q4 q5 q6 hown3 hgr hat hBc hXc hT5 hM5 hrow hel hX9 hnews
            refine wpAnyH_done (by kernel_rfl) ?_ _
            go_wp2_with fail
            go_meet
            case rel => exact ⟨HS2, HK2, x0, x1, x2, x3, x4, x5, x6⟩
  · rw [hfr, if_neg h1]
    have k1 : (x.f0 == 1) = false := beq_eq_false_iff_ne.mpr h1
    have HS2 := Aside0.mk hS0
    have HK2 := Aside0.mk hK0
    clear hS hS0 hX hX0 hXW hn1 hfr hV hU hnr hk hl htv hCv hCu hft hcB h1 hf
    go_enter Try.func101, Try.ntmps101
    go_wp2_with (go_at_call 53; (with_reducible refine (evr _ HK2.out).mono ?_); rintro e W4 ⟨v4, rfl, hL, hb4⟩; obtain ⟨RL, rl, hv4, hll, hCL⟩ := Kd.R_reads hL; subst hv4)
    have HS3 := HS2.out
    have hgW := Nat.lt_of_lt_of_le hgw HK2.out.size
    have HS4 := HS3.later hb4
    have HK4 := HK2.out.trans (NtK.of_below hgW hb4)
    have HLR := Aside0.mk (fun wr (hk : NtK g W4 wr) => StrR.kept hgW HS3 hb4 hL hk)
    clear hCL HS3 hL HS2 HK2
    generalize hLq : varsL (preT x.f2) [] = L at *
    have HLQ := Lib.hid hLq
    clear hLq
    go_loopg [7, 48] L.length (fun gg _ v48 wr => ∃ kk : Nat, kk ≤ L.length ∧ gg + kk = L.length ∧ v48 = .int .i64 (kk : Int) ∧ Aside0 (NtS base g (vs) (addNs (L.take kk) ts) wr) ∧ Aside0 (NtK g W4 wr))
    case atStart => exact ⟨0, by omega, by omega, rfl, ⟨HS4⟩, ⟨⟨Below.refl _ _, fun _ _ _ _ => rfl, fun _ h => .inl h⟩⟩⟩
    case round =>
      obtain ⟨kk, hk1, hk2, rfl, HSr, HKr⟩ := hrel
      clear HS4
      obtain ⟨v, u, hBr, hVr, hUr⟩ := id HSr.out
      obtain ⟨RA', rc', rfl, _, _⟩ := hVr.reads
      obtain ⟨RB', rd', rfl, hul', hCu'⟩ := Kd.R_reads hUr
      have w0 := (blk_cell hBr 0).trans rfl
      have w1 := (blk_cell hBr 1).trans rfl
      have hgl := hBr.lt
      by_cases hkk : kk < L.length
      · have q0 : decide (kk < L.length) = true := decide_eq_true hkk
        obtain ⟨RL2, rl2, he2, _, hCL⟩ := Kd.R_reads (HLR.out wr HKr.out)
        injection he2 with he2 _ he3
        subst he2 he3
        obtain ⟨ad, e1, hx⟩ := Kd.at_string hCL (kk : Int) (by omega) (by omega)
        cases e1
        rw [rdOf_get L kk hkk, Int.toNat_natCast] at hx
        have hnx := addNs_take L ts kk hkk
        have hcl := addNs_len (L.take kk) ts
        rw [List.length_take] at hcl
        have HNX := Lib.hid hnx
        have hcf := contains_f (addNs (L.take kk) ts) L[kk] (by have := HTL.out; have := HLL.out; omega)
        have HCL := Lib.hid hcl
        clear hnx hcl hCL
        generalize L[kk] = s at *
        generalize addNs (L.take kk) ts = cur at *
        have hct := fun W (hW : Below wr.heap.size wr W) => slices_Contains_string_string.calls _ RB' rd' cur s _ W (Kd.C_below hCu' hW) hul' hcf
        clear hCu' hcf
        have hbr := Below.refl wr.heap.size wr
        cases hin : inS cur s with
        | true =>
          rw [hin] at hct
          have hadd : addN cur s = cur := by unfold addN; rw [if_pos hin]
          have HADD := Lib.hid hadd
          clear hadd hin
          go_wp2_with (go_at_call 117; (with_reducible refine (hct _ hbr).mono ?_); rintro e W5 ⟨rfl, hd⟩; have hb5 := hd.below)
          go_roundg (L.length - kk - 1)
          case measure => omega
          case rel => exact ⟨kk + 1, by omega, by omega, by simp <;> exact w64s (by have := HTL.out; have := HLL.out; omega), ⟨by rw [HNX.out, HADD.out]; exact HSr.out.later hb5⟩, ⟨HKr.out.trans (NtK.of_below hgl hb5)⟩⟩
        | false =>
          rw [hin] at hct
          have hadd : addN cur s = cur ++ [s] := by unfold addN; rw [if_neg (by rw [hin]; simp)]
          have HADD := Lib.hid hadd
          clear hadd hin
          go_wp2_with (first | ((with_reducible refine gate_dst (N := 66) rfl ?_); refine lock4_ ?_) | (go_at_call 117; (with_reducible refine (hct _ hbr).mono ?_); rintro e W5 ⟨rfl, hd⟩; have hb5 := hd.below; have hB5 := blk_below hBr hb5; have w0 := (blk_cell hB5 0).trans rfl; have w1 := (blk_cell hB5 1).trans rfl))
          unfold Lock4
          have hS5 := HSr.out.later hb5
          have hbs5 : base ≤ W5.heap.size := Nat.le_trans hbs (Nat.le_trans (HK4.trans HKr.out).size hb5.size)
          refine Kd.R_append Kd.string (w0 := W5) base (by rfl) (.tmp 63) (.tmp 65) 43 9 (.string ⟨#[]⟩) 16 (by rfl) Try.underlying43 info_str (by rfl) (by decide) (by decide) (.slice RB' cur.length rd') cur s [.string s] (fun _ => True) (fun _ => False) (by rfl) (by rfl) rfl (fun _ h => h.elim) (fun _ _ => trivial) (Kd.R_below hUr hb5) (Below.refl _ _) hbs5 (by have := HTL.out; have := HCL.out; have := HLL.out; omega) ?_
          intro v2 W6 hR6 hB6 hg6 hat6
          obtain ⟨RC, re, hv2, _, _⟩ := Kd.R_reads hR6
          rw [show (cur ++ [s]).length = cur.length + 1 by simp] at hv2
          subst hv2
          have hfin := Nt_str hgb hB5 (hVr.later hb5) (Kd.R_below hUr hb5) hR6 hB6 hg6 hat6
          have HFIN := Aside0.mk hfin
          have hB6' : W6.heap[g]? = some (.cells #[.slice RA' (vs).length rc', .slice RB' cur.length rd'] 126 (0, 0)) := (hg6.block g (blk_lt hB5) (fun e => by obtain ⟨_, _, ho, _⟩ := Kd.R_below hUr hb5; have := own_base ho g e.symm; omega)).trans hB5
          clear hfin hR6 hB6 hg6 hat6 w0 w1
          have w0 := (blk_cell hB6' 0).trans rfl
          have w1 := (blk_cell hB6' 1).trans rfl
          have r1 := blk_frozen hB6' 1
          clear hct
          go_wp2_with fail
          go_roundg (L.length - kk - 1)
          case measure => omega
          case rel => exact ⟨kk + 1, by omega, by omega, by simp <;> exact w64s (by have := HTL.out; have := HLL.out; omega), ⟨by rw [HNX.out, HADD.out]; exact HFIN.out.1⟩, ⟨(HKr.out.trans (NtK.of_below hgl hb5)).trans HFIN.out.2⟩⟩
      · have q0 : decide (kk < L.length) = false := decide_eq_false hkk
        obtain rfl : kk = L.length := by omega
        have HSE := HSr.out
        rw [List.take_length] at HSE
        have HSEA := Aside0.mk HSE
        clear HSE hkk
        go_wp2_with fail
        refine bodyPost_end (v := .tuple #[]) (by simp [results, Try.results101, go_sem]) rfl ?_
        exact ⟨rfl, by rw [HLQ.out]; exact HSEA.out, HK4.trans HKr.out⟩
end Go.Proofs.Ytecplbgdalchdaa.Q
/- Proved here: the contracts of terms.each, Free and TypeVars. Conditions: those that each theorem names. -/
namespace Go.Proofs.Ytecplbgdalchdaa.Q
open Go.RowKit Go.Shelf Go.Proofs.YtecplbgdalchdaaW.PrintWords Go.Proofs.YtecplbgdalchdaaW.PrintMore
set_option linter.unusedVariables false
set_option linter.unusedSimpArgs false
attribute [local go_sem] Oper.semAt_some


abbrev NodeOk (x : S27) : Prop := (x.f0 = 3 ∨ x.f0 = 4) ∨ ((x.f0 = 1 ∨ x.f0 = 2 ∨ x.f0 = 5) ∧ chkB x.f2 = true)
theorem formM_nodes (t : S27) : ∀ (l : List S24) (u : S24), formM t l = some u → allM NodeOk t := by
  induction t using M_ind with
  | _ t ih =>
  intro l u h
  refine allM_mk ?_ (fun x hx => ?_)
  · rcases formM_inv h with ⟨h0, _, h2, _⟩ | ⟨h0, _⟩ | ⟨h0, _⟩ | ⟨h0, _, h2, _⟩
    · exact .inr ⟨by omega, h2⟩
    · exact .inl (.inl h0)
    · exact .inl (.inr h0)
    · exact .inr ⟨by omega, h2⟩
  · obtain ⟨p, hp⟩ := formM_kid h hx
    exact ih x hx _ _ hp
theorem frL_take (l : List S27) (j : Nat) (h : j < l.length) (out : List S27) : frL (preML (l.take (j + 1))) out = frL (preM l[j]) (frL (preML (l.take j)) out) := by rw [preML_take l j h, frL_app]
theorem tvL_take (l : List S27) (j : Nat) (h : j < l.length) (out : List ByteArray) : tvL (preML (l.take (j + 1))) out = tvL (preM l[j]) (tvL (preML (l.take j)) out) := by rw [preML_take l j h, tvL_app]
theorem tvL_len : ∀ (l : List S27) (out : List ByteArray), (∀ x, x ∈ l → szT x.f2 ≤ 1000000) → (tvL l out).length ≤ out.length + l.length * 1000000
  | [], out, _ => by simp [tvL]
  | a :: l, out, h => by
    have h1 := tvL_len l (tvStep out a) (fun x hx => h x (by simp [hx]))
    have h2 := tvStep_len out a
    have h3 := h a (by simp)
    simp only [tvL, List.foldl_cons, List.length_cons] at h1 ⊢
    omega
theorem preML_fit {t : S27} (hf : fitM t) (j : Nat) : ∀ x, x ∈ preML (t.f4.take j) → szT x.f2 ≤ 1000000 := by
  intro x hx
  obtain ⟨y, hy, hxy⟩ := preML_mem.1 hx
  exact (allM_pre y (allM_sub hf.1 (List.mem_of_mem_take hy)) x hxy).2.2.1
theorem szML_takeb (l : List S27) (j : Nat) (h : j < l.length) : szML (l.take j) + szM l[j] ≤ szML l := szML_le l j h
set_option maxHeartbeats 8000000 in
set_option maxRecDepth 100000 in
theorem each_calls (n : Nat) : ∀ x : S27, szM x ≤ n → fitM x → allM NodeOk x → ∀ (base g : Nat) (vs : List S27) (ts : List ByteArray) (A : Option Addr) (c : Nat) (B : Option Addr) (d : Nat) (w : World), g < base → base ≤ w.heap.size → NtS base g vs ts w → RdF w (fun k => k < g) x A c B d → vs.length + szM x ≤ 1000000 → ts.length + szM x * 1000000 ≤ 1000000000000 →
    Calls Try.prog 102 #[.agg #[.int .u8 x.f0, .string x.f1, .bool x.f2.f0, .string x.f2.f1, .slice A x.f2.f2.length c, .int .i64 x.f3, .slice B x.f4.length d], .func (.func 101) #[.pointer (some ⟨g, 0, none⟩)] #[]] w fun e w' => e = .returned (.tuple #[]) ∧ NtS base g (frL (preM x) vs) (tvL (preM x) ts) w' ∧ NtK g w w' := by
  induction n with
  | zero => intro x hn; have := szM_pos x; omega
  | succ n ih =>
  intro x hn hf ho base g vs ts A c B d w hgb hbs hS hX hvl htl
  have hb0 := below_one (w := w) (.cells #[.int .u8 x.f0, .string x.f1, .bool x.f2.f0, .string x.f2.f1, .slice A x.f2.f2.length c, .int .i64 x.f3, .slice B x.f4.length d] 27)
  have BX := blk_new w (.cells #[.int .u8 x.f0, .string x.f1, .bool x.f2.f0, .string x.f2.f1, .slice A x.f2.f2.length c, .int .i64 x.f3, .slice B x.f4.length d] 27)
  have hsz := szM_eq x
  have hlen := szML_len x.f4
  have htx := (allM_top hf.1).2.2.1
  have hgw : g < w.heap.size := by omega
  have hnr := hS.not_row hb0 (Nat.le_refl _)
  have hno := note_calls x hf (allM_top ho) base g vs ts A c B d _ hgb (Nat.le_trans hbs hb0.size) (hS.later hb0) (hX.later hb0) (by omega) (by omega)
  have eg : ∀ args w, (callFunc 101 args).run Try.prog w = .ok (.enter 101 args) w := enters_of Try.func101 (by kernel_rfl) rfl
  have hfr : frL (preM x) vs = frL (preML x.f4) (frStep vs x) := by rw [preM_eq]; rfl
  have htv : tvL (preM x) ts = tvL (preML x.f4) (tvStep ts x) := by rw [preM_eq]; rfl
  rw [hfr, htv]
  have hvl1 : (frStep vs x).length ≤ vs.length + 1 := by unfold frStep; split <;> (try split) <;> simp
  have htl1 := tvStep_len ts x
  generalize frStep vs x = vs1 at *
  generalize tvStep ts x = ts1 at *
  have hK0 := NtK.of_below hgw hb0
  have hcall : ∀ kk : Nat, ∀ hk : kk < x.f4.length, ∀ (A2 : Option Addr) (c2 : Nat) (A3 : Option Addr) (c3 : Nat) (W : World), base ≤ W.heap.size → NtS base g (frL (preML (x.f4.take kk)) vs1) (tvL (preML (x.f4.take kk)) ts1) W → RdF W (fun k => k < g) x.f4[kk] A2 c2 A3 c3 →
      Calls Try.prog 102 #[.agg #[.int .u8 x.f4[kk].f0, .string x.f4[kk].f1, .bool x.f4[kk].f2.f0, .string x.f4[kk].f2.f1, .slice A2 x.f4[kk].f2.f2.length c2, .int .i64 x.f4[kk].f3, .slice A3 x.f4[kk].f4.length c3], .func (.func 101) #[.pointer (some ⟨g, 0, none⟩)] #[]] W fun e w' => e = .returned (.tuple #[]) ∧ NtS base g (frL (preML (x.f4.take (kk + 1))) vs1) (tvL (preML (x.f4.take (kk + 1))) ts1) w' ∧ NtK g W w' := by
    intro kk hk A2 c2 A3 c3 W hW hSW hRW
    have hm := List.getElem_mem hk
    have h1 := szML_takeb x.f4 kk hk
    have h2 := frL_len (preML (x.f4.take kk)) vs1
    have h3 := tvL_len (preML (x.f4.take kk)) ts1 (preML_fit hf kk)
    rw [preML_length] at h2 h3
    rw [frL_take _ _ hk, tvL_take _ _ hk]
    exact ih _ (by have := szM_sub hm; omega) (fitM_sub hf hm) (allM_sub ho hm) base g _ _ A2 c2 A3 c3 W hgb hW hSW hRW (by omega) (by omega)
  have HX := Aside0.mk hX
  have HF := Aside0.mk hf
  have HCALL := Aside0.mk hcall
  have HHN := Lib.hid hvl
  obtain ⟨x0, x1, x2, x3, x4, x5, x6⟩ := box7 BX
  clear ih hn hf ho hS hX htl hfr htv hvl1 htl1 htx hcall hb0 hvl
  go_enter Try.func102, Try.ntmps102
  go_wp2_with (go_at_fn 101; (with_reducible refine hno.mono ?_); rintro e W1 ⟨rfl, hS1, hK1⟩; have hX1 := hK1.blk BX (by omega) hnr; obtain ⟨x0, x1, x2, x3, x4, x5, x6⟩ := box7 hX1)
  have HK1 := Aside0.mk (hK0.trans hK1)
  have HS1 := Aside0.mk hS1
  clear hS1 hK1 hX1 x0 x1 x2 x3 x4 x5 x6 hno
  go_loopg [5, 12] x.f4.length (fun gg _ v12 wr => ∃ kk : Nat, kk ≤ x.f4.length ∧ gg + kk = x.f4.length ∧ v12 = .int .i64 (kk : Int) ∧ Aside0 (NtS base g (frL (preML (x.f4.take kk)) vs1) (tvL (preML (x.f4.take kk)) ts1) wr) ∧ Aside0 (NtK g w wr))
  case atStart => exact ⟨0, by omega, by omega, rfl, ⟨HS1.out⟩, ⟨HK1.out⟩⟩
  case round =>
    obtain ⟨kk, hk1, hk2, rfl, HSr, HKr⟩ := hrel
    clear HS1 HK1
    by_cases hkk : kk < x.f4.length
    · have q0 : decide (kk < x.f4.length) = true := decide_eq_true hkk
      have hXr := HX.out.step (fun k hk _ => HKr.out.below.block k hk)
      obtain ⟨ad, A2, c2, A3, c3, e1, ⟨hx0, hx1, hx2, hx3, hx4, hx5, hx6⟩, hE⟩ := tm_elem (Kd.V_mk (e := 27) (base := 0) hXr.2.2 hXr.2.1) kk hkk
      cases e1
      rw [rdM x.f4 kk hkk] at hx0 hx1 hx2 hx3 hx4 hx5 hx6 hE
      have hcall := fun W => HCALL.out kk hkk A2 c2 A3 c3 W
      have hgl := Nat.lt_of_lt_of_le hgw HKr.out.size
      have hbsr : base ≤ wr.heap.size := Nat.le_trans hbs HKr.out.size
      generalize x.f4[kk] = y at *
      have hcl := hcall (wr.alloc (.cells #[.int .u8 y.f0, .string y.f1, .bool y.f2.f0, .string y.f2.f1, .slice A2 y.f2.f2.length c2, .int .i64 y.f3, .slice A3 y.f4.length c3] 27)) (Nat.le_trans hbsr (below_one _).size) (HSr.out.later (below_one _)) (hE.later (below_one _))
      have hKa := NtK.of_below hgl (below_one (w := wr) (.cells #[.int .u8 y.f0, .string y.f1, .bool y.f2.f0, .string y.f2.f1, .slice A2 y.f2.f2.length c2, .int .i64 y.f3, .slice A3 y.f4.length c3] 27))
      clear hcall hXr hE
      go_wp2_with (go_at_call 102; (with_reducible refine hcl.mono ?_); rintro e W2 ⟨rfl, hS2, hK2⟩)
      go_roundg (x.f4.length - kk - 1)
      case measure => omega
      case rel => exact ⟨kk + 1, by omega, by omega, by simp <;> exact w64s (by have := HHN.out; omega), ⟨hS2⟩, ⟨(HKr.out.trans hKa).trans hK2⟩⟩
    · have q0 : decide (kk < x.f4.length) = false := decide_eq_false hkk
      obtain rfl : kk = x.f4.length := by omega
      have HSE := HSr.out
      rw [List.take_length] at HSE
      have HSEA := Aside0.mk HSE
      clear HSE hkk
      go_wp2_with fail
      refine bodyPost_end (v := .tuple #[]) (by simp [results, Try.results102, go_sem]) rfl ?_
      exact ⟨rfl, HSEA.out, HKr.out⟩
/-- Free, TypeVars. -/
def freF (t : S27) : List S27 × Int := if chkM t = 0 then (frM t, 0) else ([], chkM t)
def FreePost (w : World) (p : List S27 × Int) (e : Ending) (w' : World) : Prop := ∃ v, e = .returned (.tuple #[v, .int .i64 p.2]) ∧ WTM w' (fun k => w.heap.size ≤ k) v p.1 ∧ Below w.heap.size w w'
set_option maxHeartbeats 4000000 in
set_option maxRecDepth 100000 in
theorem free_all_calls (t : S27) (hf : fitM t) (A : Option Addr) (c : Nat) (B : Option Addr) (d : Nat) (w : World) (hX : RdM w t A c B d) : Calls Try.prog 22 #[.agg #[.int .u8 t.f0, .string t.f1, .bool t.f2.f0, .string t.f2.f1, .slice A t.f2.f2.length c, .int .i64 t.f3, .slice B t.f4.length d]] w (FreePost w (freF t)) := by
  have hb0 := below_one (w := w) (.cells #[.int .u8 t.f0, .string t.f1, .bool t.f2.f0, .string t.f2.f1, .slice A t.f2.f2.length c, .int .i64 t.f3, .slice B t.f4.length d] 27)
  have BX := blk_new w (.cells #[.int .u8 t.f0, .string t.f1, .bool t.f2.f0, .string t.f2.f1, .slice A t.f2.f2.length c, .int .i64 t.f3, .slice B t.f4.length d] 27)
  obtain ⟨x0, x1, x2, x3, x4, x5, x6⟩ := box7 BX
  have ec := fun W (hw : Below w.heap.size w W) => chkM_calls t hf A c B d W (hX.later hw)
  have hR : freF t = if chkM t = 0 then (frM t, 0) else ([], chkM t) := rfl
  have hXF : RdF w (fun k => k < w.heap.size) t A c B d := ⟨⟨Kd.C_F k24_heap hX.1.1, hX.1.2⟩, Kd.C_F k27_heap hX.2.1, hX.2.2⟩
  unfold FreePost
  by_cases hq : chkM t ≠ 0
  · rw [hR, if_neg hq]
    have p1 : (chkM t != 0) = true := bne_iff_ne.mpr hq
    clear hR hXF hX hq
    generalize chkM t = er at *
    go_enter Try.func22, Try.ntmps22
    go_wp2_with (go_at_call 29; (with_reducible refine (ec _ hb0).mono ?_); rintro e w1 ⟨rfl, hb1⟩)
    refine bodyPost_ret (v := .tuple #[.slice none 0 0, .int .i64 er]) (by simp [results, Try.results22, go_sem]) rfl ?_
    exact ⟨_, rfl, .nil _ _, below_step hb0 hb1⟩
  replace hq : chkM t = 0 := Decidable.not_not.mp hq
  have hs := (chkM_ok hq).1
  have hno := formM_nodes t [] _ (chkM_ok hq).2.2
  rw [hR, if_pos hq]
  rw [hq] at ec
  have ee : ∀ (g : Nat) (W : World), w.heap.size ≤ g → g < W.heap.size → W.heap[g]? = some (.cells #[.slice none 0 0, .slice none 0 0] 126 (0, 0)) → Below w.heap.size w W → Calls Try.prog 102 #[.agg #[.int .u8 t.f0, .string t.f1, .bool t.f2.f0, .string t.f2.f1, .slice A t.f2.f2.length c, .int .i64 t.f3, .slice B t.f4.length d], .func (.func 101) #[.pointer (some ⟨g, 0, none⟩)] #[]] W fun e w' => e = .returned (.tuple #[]) ∧ NtS (g + 1) g (frM t) (tvM t) w' ∧ NtK g W w' := by
    intro g W h1 h2 h3 hb
    exact each_calls _ t (Nat.le_refl _) hf hno (g + 1) g [] [] A c B d W (by omega) h2 (NtS.start h3) ((hXF.later hb).mono (fun k hk => by omega)) (by simp; omega) (by simp; omega)
  clear hR hXF hX hq hs hno
  go_enter Try.func22, Try.ntmps22
  go_wp2_with (first
    | (go_at_call 102; (with_reducible refine (ee _ _ hb1'.size (blk_lt BW) BW hbw).mono ?_); rintro e w2 ⟨rfl, hS2, hK2⟩; obtain ⟨v, u, hB2, hV2, hU2⟩ := hS2; obtain ⟨RA, rc, hv, _, _⟩ := hV2.reads; subst hv; obtain ⟨RB, rd, hu, _, _⟩ := Kd.R_reads hU2; subst hu; have w0 := (blk_cell hB2 0).trans rfl; have w1' := (blk_cell hB2 1).trans rfl)
    | (go_at_call 29; (with_reducible refine (ec _ hb0).mono ?_); rintro e w1 ⟨rfl, hb1⟩; have hb1' := below_step hb0 hb1; have BX1 := blk_below BX hb1; obtain ⟨x0, x1, x2, x3, x4, x5, x6⟩ := box7 (blk_alloc BX1 (.cells #[.slice none 0 0, .slice none 0 0] 126)); have hbw := below_step hb1' (below_one (w := w1) (.cells #[.slice none 0 0, .slice none 0 0] 126)); have BW := blk_new w1 (.cells #[.slice none 0 0, .slice none 0 0] 126)))
  refine bodyPost_ret (v := .tuple #[.slice RA (frM t).length rc, .int .i64 0]) (by simp [results, Try.results22, go_sem]) rfl ?_
  have hfin := hbw.trans (hK2.below.mono hb1'.size)
  exact ⟨_, rfl, hV2.tree.mono (fun k hk => by have := hb1'.size; omega), hfin⟩
end Go.Proofs.Ytecplbgdalchdaa.Q
/- Proved here: the walk of the law TermsOpen. Conditions: those that each theorem names. -/
namespace Go.Proofs.Ytecplbgdalchdaa.Q
open Go.RowKit Go.Shelf Go.Proofs.YtecplbgdalchdaaW.PrintWords Go.Proofs.YtecplbgdalchdaaW.PrintMore
set_option linter.unusedVariables false
set_option linter.unusedSimpArgs false
attribute [local go_sem] Oper.semAt_some


theorem pre_all {P : S27 → Prop} (t : S27) : allM P t → ∀ x, x ∈ preM t → allM P x ∧ szM x ≤ szM t := by
  induction t using M_ind with
  | _ t ih =>
  intro h x hx
  rw [preM_eq, List.mem_cons] at hx
  rcases hx with rfl | hx
  · exact ⟨h, Nat.le_refl _⟩
  · obtain ⟨y, hy, hxy⟩ := preML_mem.1 hx
    obtain ⟨h1, h2⟩ := ih y hy (allM_sub h hy) x hxy
    exact ⟨h1, by have := szM_sub hy; omega⟩
theorem fr_fit {t : S27} (h : fitM t) : ∀ x, x ∈ frM t → fitM x := by
  intro x hx
  rcases frL_of _ _ x hx with h1 | ⟨h1, _⟩
  · cases h1
  · obtain ⟨h2, h3⟩ := pre_all t h.1 x h1
    exact ⟨h2, by have := h.2; omega⟩
end Go.Proofs.Ytecplbgdalchdaa.Q
/- Proved here: the walk of the law TermsHints. Conditions: those that each theorem names. -/
namespace Go.Proofs.Ytecplbgdalchdaa.Q
open Go.RowKit Go.Shelf Go.Proofs.YtecplbgdalchdaaW.PrintWords Go.Proofs.YtecplbgdalchdaaW.PrintMore
set_option linter.unusedVariables false
set_option linter.unusedSimpArgs false
attribute [local go_sem] Oper.semAt_some


theorem ren_fit {t : S27} {h : ByteArray} (hh : okS h) : allM FitN t → allM FitN (renM h t) := by
  induction t using M_ind with
  | _ t ih =>
  intro hf
  have h1 := allM_top hf
  rw [renM_eq]
  refine allM_mk ⟨?_, h1.2.1, h1.2.2.1, h1.2.2.2⟩ (fun x hx => ?_)
  · show okS (if t.f0 = 5 then h else t.f1)
    split
    · exact hh
    · exact h1.1
  · obtain ⟨y, hy, rfl⟩ := List.mem_map.1 hx
    exact ih y hy (allM_sub hf hy)
theorem fitM_ren {t : S27} {h : ByteArray} (hh : okS h) (hf : fitM t) : fitM (renM h t) := ⟨ren_fit hh hf.1, by rw [szM_ren]; exact hf.2⟩
abbrev HnS (w wk : World) (a b r : S27) (ga gb gr : Nat) (A A' Ar B B' Br : Option Addr) (c c' cr d d' dr : Nat) (W : World) : Prop := (BxM W ga a A c B d ∧ BxM W gb b A' c' B' d' ∧ BxM W gr r Ar cr Br dr) ∧ Below wk.heap.size wk W ∧ Below w.heap.size w W
theorem HnS.step {w wk : World} {a b r : S27} {ga gb gr : Nat} {A A' Ar B B' Br : Option Addr} {c c' cr d d' dr : Nat} {W W' : World} (h : HnS w wk a b r ga gb gr A A' Ar B B' Br c c' cr d d' dr W) (hb : Below W.heap.size W W') : HnS w wk a b r ga gb gr A A' Ar B B' Br c c' cr d d' dr W' := ⟨⟨h.1.1.step hb, h.1.2.1.step hb, h.1.2.2.step hb⟩, below_step h.2.1 hb, below_step h.2.2 hb⟩
set_option maxHeartbeats 8000000 in
set_option maxRecDepth 100000 in
theorem law_hintsM (a : S27) (A : Option Addr) (c : Nat) (B : Option Addr) (d : Nat) (b : S27) (A' : Option Addr) (c' : Nat) (B' : Option Addr) (d' : Nat) (hint : ByteArray) (w : World) (ha : RdM w a A c B d) (hwa : wdM a) (hb : RdM w b A' c' B' d') (hwb : wdM b) (hhs : hint.size ≤ 140737488351232) :
    Calls Try.prog 7 #[.agg #[.int .u8 a.f0, .string a.f1, .bool a.f2.f0, .string a.f2.f1, .slice A a.f2.f2.length c, .int .i64 a.f3, .slice B a.f4.length d], .agg #[.int .u8 b.f0, .string b.f1, .bool b.f2.f0, .string b.f2.f1, .slice A' b.f2.f2.length c', .int .i64 b.f3, .slice B' b.f4.length d'], .string hint] w fun e w' => e = .returned (.bool true) ∧ Below w.heap.size w w' := by
  obtain ⟨ka, hka⟩ := (rgreatM_ev a hwa).at
  have hga : ∀ W, RdM W a A c B d → Calls Try.prog 16 #[.agg #[.int .u8 a.f0, .string a.f1, .bool a.f2.f0, .string a.f2.f1, .slice A a.f2.f2.length c, .int .i64 a.f3, .slice B a.f4.length d]] W fun e w' => e = .returned (.bool (grtM a)) ∧ Below W.heap.size W w' := fun W h => sequentref02_Great.calls ka a.f0 a.f1 a.f2.f0 a.f2.f1 A c a.f2.f2 a.f3 B d a.f4 _ W h.1.1 h.1.2 h.2.1 h.2.2 hka
  obtain ⟨kb, hkb⟩ := (rgreatM_ev b hwb).at
  have hgb : ∀ W, RdM W b A' c' B' d' → Calls Try.prog 16 #[.agg #[.int .u8 b.f0, .string b.f1, .bool b.f2.f0, .string b.f2.f1, .slice A' b.f2.f2.length c', .int .i64 b.f3, .slice B' b.f4.length d']] W fun e w' => e = .returned (.bool (grtM b)) ∧ Below W.heap.size W w' := fun W h => sequentref02_Great.calls kb b.f0 b.f1 b.f2.f0 b.f2.f1 A' c' b.f2.f2 b.f3 B' d' b.f4 _ W h.1.1 h.1.2 h.2.1 h.2.2 hkb
  have hok : okS hint := by unfold okS; omega
  obtain ⟨kn, hkn⟩ := (rname_ev hint hok).at
  have qn := fun W => (sequentref02_Name.calls kn hint _ W hkn).mono (fun _ _ h => And.intro h.1 h.2.below)
  have hbw := below_two (w := w) (.cells #[.int .u8 a.f0, .string a.f1, .bool a.f2.f0, .string a.f2.f1, .slice A a.f2.f2.length c, .int .i64 a.f3, .slice B a.f4.length d] 27) (.cells #[.int .u8 b.f0, .string b.f1, .bool b.f2.f0, .string b.f2.f1, .slice A' b.f2.f2.length c', .int .i64 b.f3, .slice B' b.f4.length d'] 27)
  have HA : HdM ((w.alloc (.cells #[.int .u8 a.f0, .string a.f1, .bool a.f2.f0, .string a.f2.f1, .slice A a.f2.f2.length c, .int .i64 a.f3, .slice B a.f4.length d] 27)).alloc (.cells #[.int .u8 b.f0, .string b.f1, .bool b.f2.f0, .string b.f2.f1, .slice A' b.f2.f2.length c', .int .i64 b.f3, .slice B' b.f4.length d'] 27)) w.heap.size a A c B d := ⟨blk_mid _ _, ha.later hbw⟩
  have HB : HdM ((w.alloc (.cells #[.int .u8 a.f0, .string a.f1, .bool a.f2.f0, .string a.f2.f1, .slice A a.f2.f2.length c, .int .i64 a.f3, .slice B a.f4.length d] 27)).alloc (.cells #[.int .u8 b.f0, .string b.f1, .bool b.f2.f0, .string b.f2.f1, .slice A' b.f2.f2.length c', .int .i64 b.f3, .slice B' b.f4.length d'] 27)) (w.heap.size + 1) b A' c' B' d' := ⟨blk_top _ _, hb.later hbw⟩
  have hfa := grtM_fit hwa
  have hfb := grtM_fit hwb
  clear hka hkb ha hb hwa hwb hkn
  generalize hm : (w.alloc (.cells #[.int .u8 a.f0, .string a.f1, .bool a.f2.f0, .string a.f2.f1, .slice A a.f2.f2.length c, .int .i64 a.f3, .slice B a.f4.length d] 27)).alloc (.cells #[.int .u8 b.f0, .string b.f1, .bool b.f2.f0, .string b.f2.f1, .slice A' b.f2.f2.length c', .int .i64 b.f3, .slice B' b.f4.length d'] 27) = W0 at *
  have HM := Lib.hid hm
  clear hm
  cases hqa : grtM a with
  | true =>
    rw [hqa] at hga
    clear hqa hfa hfb hgb qn hok hhs
    go_enter Try.func7, Try.ntmps7
    go_wp2_with (first | (go_at_call 16; (with_reducible refine (hga _ HA.2).mono ?_); rintro e Wb ⟨rfl, hc⟩; (try have HA := HA.later hc); (try have HB := HB.later hc); (try have HR := HR.later hc); (try (have BU := blk_below BU hc; have HU := Tr.later HU hc)); (try (have BV := blk_below BV hc; have HV := Tr.later HV hc)); (try have HL1 := Kd.C_below HL1 hc); (try have HL2 := Kd.C_below HL2 hc); have hbw := below_step hbw hc; (try obtain ⟨x0, x1, x2, x3, x4, x5, x6⟩ := HA.box); (try obtain ⟨y0, y1, y2, y3, y4, y5, y6⟩ := HB.box); (try obtain ⟨z0, z1, z2, z3, z4, z5, z6⟩ := HR.box); (try (have u0 := (blk_cell BU 0).trans rfl; have u1 := (blk_cell BU 1).trans rfl; have u2 := (blk_cell BU 2).trans rfl)); (try (have v0 := (blk_cell BV 0).trans rfl; have v1 := (blk_cell BV 1).trans rfl; have v2 := (blk_cell BV 2).trans rfl))) | (go_at_call 15; rw [HM.out]; refine (aliveM_calls _).mono ?_; rintro e Wb ⟨rfl, hc⟩; (try have HA := HA.later hc); (try have HB := HB.later hc); (try have HR := HR.later hc); (try (have BU := blk_below BU hc; have HU := Tr.later HU hc)); (try (have BV := blk_below BV hc; have HV := Tr.later HV hc)); (try have HL1 := Kd.C_below HL1 hc); (try have HL2 := Kd.C_below HL2 hc); have hbw := below_step hbw hc; (try obtain ⟨x0, x1, x2, x3, x4, x5, x6⟩ := HA.box); (try obtain ⟨y0, y1, y2, y3, y4, y5, y6⟩ := HB.box); (try obtain ⟨z0, z1, z2, z3, z4, z5, z6⟩ := HR.box); (try (have u0 := (blk_cell BU 0).trans rfl; have u1 := (blk_cell BU 1).trans rfl; have u2 := (blk_cell BU 2).trans rfl)); (try (have v0 := (blk_cell BV 0).trans rfl; have v1 := (blk_cell BV 1).trans rfl; have v2 := (blk_cell BV 2).trans rfl))))
    go_ret
    exact ⟨rfl, hbw⟩
  | false =>
  cases hqb : grtM b with
  | true =>
    rw [hqa] at hga
    rw [hqb] at hgb
    clear hqa hqb hfa hfb qn hok hhs
    go_enter Try.func7, Try.ntmps7
    go_wp2_with (first | (go_at_call 16; (with_reducible refine (hgb _ HB.2).mono ?_); rintro e Wb ⟨rfl, hc⟩; (try have HA := HA.later hc); (try have HB := HB.later hc); (try have HR := HR.later hc); (try (have BU := blk_below BU hc; have HU := Tr.later HU hc)); (try (have BV := blk_below BV hc; have HV := Tr.later HV hc)); (try have HL1 := Kd.C_below HL1 hc); (try have HL2 := Kd.C_below HL2 hc); have hbw := below_step hbw hc; (try obtain ⟨x0, x1, x2, x3, x4, x5, x6⟩ := HA.box); (try obtain ⟨y0, y1, y2, y3, y4, y5, y6⟩ := HB.box); (try obtain ⟨z0, z1, z2, z3, z4, z5, z6⟩ := HR.box); (try (have u0 := (blk_cell BU 0).trans rfl; have u1 := (blk_cell BU 1).trans rfl; have u2 := (blk_cell BU 2).trans rfl)); (try (have v0 := (blk_cell BV 0).trans rfl; have v1 := (blk_cell BV 1).trans rfl; have v2 := (blk_cell BV 2).trans rfl))) | (go_at_call 16; (with_reducible refine (hga _ HA.2).mono ?_); rintro e Wb ⟨rfl, hc⟩; (try have HA := HA.later hc); (try have HB := HB.later hc); (try have HR := HR.later hc); (try (have BU := blk_below BU hc; have HU := Tr.later HU hc)); (try (have BV := blk_below BV hc; have HV := Tr.later HV hc)); (try have HL1 := Kd.C_below HL1 hc); (try have HL2 := Kd.C_below HL2 hc); have hbw := below_step hbw hc; (try obtain ⟨x0, x1, x2, x3, x4, x5, x6⟩ := HA.box); (try obtain ⟨y0, y1, y2, y3, y4, y5, y6⟩ := HB.box); (try obtain ⟨z0, z1, z2, z3, z4, z5, z6⟩ := HR.box); (try (have u0 := (blk_cell BU 0).trans rfl; have u1 := (blk_cell BU 1).trans rfl; have u2 := (blk_cell BU 2).trans rfl)); (try (have v0 := (blk_cell BV 0).trans rfl; have v1 := (blk_cell BV 1).trans rfl; have v2 := (blk_cell BV 2).trans rfl))) | (go_at_call 15; rw [HM.out]; refine (aliveM_calls _).mono ?_; rintro e Wb ⟨rfl, hc⟩; (try have HA := HA.later hc); (try have HB := HB.later hc); (try have HR := HR.later hc); (try (have BU := blk_below BU hc; have HU := Tr.later HU hc)); (try (have BV := blk_below BV hc; have HV := Tr.later HV hc)); (try have HL1 := Kd.C_below HL1 hc); (try have HL2 := Kd.C_below HL2 hc); have hbw := below_step hbw hc; (try obtain ⟨x0, x1, x2, x3, x4, x5, x6⟩ := HA.box); (try obtain ⟨y0, y1, y2, y3, y4, y5, y6⟩ := HB.box); (try obtain ⟨z0, z1, z2, z3, z4, z5, z6⟩ := HR.box); (try (have u0 := (blk_cell BU 0).trans rfl; have u1 := (blk_cell BU 1).trans rfl; have u2 := (blk_cell BU 2).trans rfl)); (try (have v0 := (blk_cell BV 0).trans rfl; have v1 := (blk_cell BV 1).trans rfl; have v2 := (blk_cell BV 2).trans rfl))))
    go_ret
    exact ⟨rfl, hbw⟩
  | false =>
  rw [hqa] at hga
  rw [hqb] at hgb
  have hfa := (hfa hqa).1
  clear hqa hqb hfb
  by_cases hsz : 1000 < hint.size
  · have q0 : decide ((1000 : Int) < (hint.size : Int)) = true := decide_eq_true (by omega)
    clear hsz hfa qn hok hhs
    go_enter Try.func7, Try.ntmps7
    go_wp2_with (first | (go_at_call 16; (with_reducible refine (hgb _ HB.2).mono ?_); rintro e Wb ⟨rfl, hc⟩; (try have HA := HA.later hc); (try have HB := HB.later hc); (try have HR := HR.later hc); (try (have BU := blk_below BU hc; have HU := Tr.later HU hc)); (try (have BV := blk_below BV hc; have HV := Tr.later HV hc)); (try have HL1 := Kd.C_below HL1 hc); (try have HL2 := Kd.C_below HL2 hc); have hbw := below_step hbw hc; (try obtain ⟨x0, x1, x2, x3, x4, x5, x6⟩ := HA.box); (try obtain ⟨y0, y1, y2, y3, y4, y5, y6⟩ := HB.box); (try obtain ⟨z0, z1, z2, z3, z4, z5, z6⟩ := HR.box); (try (have u0 := (blk_cell BU 0).trans rfl; have u1 := (blk_cell BU 1).trans rfl; have u2 := (blk_cell BU 2).trans rfl)); (try (have v0 := (blk_cell BV 0).trans rfl; have v1 := (blk_cell BV 1).trans rfl; have v2 := (blk_cell BV 2).trans rfl))) | (go_at_call 16; (with_reducible refine (hga _ HA.2).mono ?_); rintro e Wb ⟨rfl, hc⟩; (try have HA := HA.later hc); (try have HB := HB.later hc); (try have HR := HR.later hc); (try (have BU := blk_below BU hc; have HU := Tr.later HU hc)); (try (have BV := blk_below BV hc; have HV := Tr.later HV hc)); (try have HL1 := Kd.C_below HL1 hc); (try have HL2 := Kd.C_below HL2 hc); have hbw := below_step hbw hc; (try obtain ⟨x0, x1, x2, x3, x4, x5, x6⟩ := HA.box); (try obtain ⟨y0, y1, y2, y3, y4, y5, y6⟩ := HB.box); (try obtain ⟨z0, z1, z2, z3, z4, z5, z6⟩ := HR.box); (try (have u0 := (blk_cell BU 0).trans rfl; have u1 := (blk_cell BU 1).trans rfl; have u2 := (blk_cell BU 2).trans rfl)); (try (have v0 := (blk_cell BV 0).trans rfl; have v1 := (blk_cell BV 1).trans rfl; have v2 := (blk_cell BV 2).trans rfl))) | (go_at_call 15; rw [HM.out]; refine (aliveM_calls _).mono ?_; rintro e Wb ⟨rfl, hc⟩; (try have HA := HA.later hc); (try have HB := HB.later hc); (try have HR := HR.later hc); (try (have BU := blk_below BU hc; have HU := Tr.later HU hc)); (try (have BV := blk_below BV hc; have HV := Tr.later HV hc)); (try have HL1 := Kd.C_below HL1 hc); (try have HL2 := Kd.C_below HL2 hc); have hbw := below_step hbw hc; (try obtain ⟨x0, x1, x2, x3, x4, x5, x6⟩ := HA.box); (try obtain ⟨y0, y1, y2, y3, y4, y5, y6⟩ := HB.box); (try obtain ⟨z0, z1, z2, z3, z4, z5, z6⟩ := HR.box); (try (have u0 := (blk_cell BU 0).trans rfl; have u1 := (blk_cell BU 1).trans rfl; have u2 := (blk_cell BU 2).trans rfl)); (try (have v0 := (blk_cell BV 0).trans rfl; have v1 := (blk_cell BV 1).trans rfl; have v2 := (blk_cell BV 2).trans rfl))))
    go_ret
    exact ⟨rfl, hbw⟩
  have q0 : decide ((1000 : Int) < (hint.size : Int)) = false := decide_eq_false (by omega)
  clear hsz hhs
  cases hnm : nmC hint with
  | false =>
    rw [hnm] at qn
    clear hnm hfa hok
    go_enter Try.func7, Try.ntmps7
    go_wp2_with (first | (go_at_call 50; (with_reducible refine (qn _).mono ?_); rintro e Wb ⟨rfl, hc⟩; (try have HA := HA.later hc); (try have HB := HB.later hc); (try have HR := HR.later hc); (try (have BU := blk_below BU hc; have HU := Tr.later HU hc)); (try (have BV := blk_below BV hc; have HV := Tr.later HV hc)); (try have HL1 := Kd.C_below HL1 hc); (try have HL2 := Kd.C_below HL2 hc); have hbw := below_step hbw hc; (try obtain ⟨x0, x1, x2, x3, x4, x5, x6⟩ := HA.box); (try obtain ⟨y0, y1, y2, y3, y4, y5, y6⟩ := HB.box); (try obtain ⟨z0, z1, z2, z3, z4, z5, z6⟩ := HR.box); (try (have u0 := (blk_cell BU 0).trans rfl; have u1 := (blk_cell BU 1).trans rfl; have u2 := (blk_cell BU 2).trans rfl)); (try (have v0 := (blk_cell BV 0).trans rfl; have v1 := (blk_cell BV 1).trans rfl; have v2 := (blk_cell BV 2).trans rfl))) | (go_at_call 16; (with_reducible refine (hgb _ HB.2).mono ?_); rintro e Wb ⟨rfl, hc⟩; (try have HA := HA.later hc); (try have HB := HB.later hc); (try have HR := HR.later hc); (try (have BU := blk_below BU hc; have HU := Tr.later HU hc)); (try (have BV := blk_below BV hc; have HV := Tr.later HV hc)); (try have HL1 := Kd.C_below HL1 hc); (try have HL2 := Kd.C_below HL2 hc); have hbw := below_step hbw hc; (try obtain ⟨x0, x1, x2, x3, x4, x5, x6⟩ := HA.box); (try obtain ⟨y0, y1, y2, y3, y4, y5, y6⟩ := HB.box); (try obtain ⟨z0, z1, z2, z3, z4, z5, z6⟩ := HR.box); (try (have u0 := (blk_cell BU 0).trans rfl; have u1 := (blk_cell BU 1).trans rfl; have u2 := (blk_cell BU 2).trans rfl)); (try (have v0 := (blk_cell BV 0).trans rfl; have v1 := (blk_cell BV 1).trans rfl; have v2 := (blk_cell BV 2).trans rfl))) | (go_at_call 16; (with_reducible refine (hga _ HA.2).mono ?_); rintro e Wb ⟨rfl, hc⟩; (try have HA := HA.later hc); (try have HB := HB.later hc); (try have HR := HR.later hc); (try (have BU := blk_below BU hc; have HU := Tr.later HU hc)); (try (have BV := blk_below BV hc; have HV := Tr.later HV hc)); (try have HL1 := Kd.C_below HL1 hc); (try have HL2 := Kd.C_below HL2 hc); have hbw := below_step hbw hc; (try obtain ⟨x0, x1, x2, x3, x4, x5, x6⟩ := HA.box); (try obtain ⟨y0, y1, y2, y3, y4, y5, y6⟩ := HB.box); (try obtain ⟨z0, z1, z2, z3, z4, z5, z6⟩ := HR.box); (try (have u0 := (blk_cell BU 0).trans rfl; have u1 := (blk_cell BU 1).trans rfl; have u2 := (blk_cell BU 2).trans rfl)); (try (have v0 := (blk_cell BV 0).trans rfl; have v1 := (blk_cell BV 1).trans rfl; have v2 := (blk_cell BV 2).trans rfl))) | (go_at_call 15; rw [HM.out]; refine (aliveM_calls _).mono ?_; rintro e Wb ⟨rfl, hc⟩; (try have HA := HA.later hc); (try have HB := HB.later hc); (try have HR := HR.later hc); (try (have BU := blk_below BU hc; have HU := Tr.later HU hc)); (try (have BV := blk_below BV hc; have HV := Tr.later HV hc)); (try have HL1 := Kd.C_below HL1 hc); (try have HL2 := Kd.C_below HL2 hc); have hbw := below_step hbw hc; (try obtain ⟨x0, x1, x2, x3, x4, x5, x6⟩ := HA.box); (try obtain ⟨y0, y1, y2, y3, y4, y5, y6⟩ := HB.box); (try obtain ⟨z0, z1, z2, z3, z4, z5, z6⟩ := HR.box); (try (have u0 := (blk_cell BU 0).trans rfl; have u1 := (blk_cell BU 1).trans rfl; have u2 := (blk_cell BU 2).trans rfl)); (try (have v0 := (blk_cell BV 0).trans rfl; have v1 := (blk_cell BV 1).trans rfl; have v2 := (blk_cell BV 2).trans rfl))))
    go_ret
    exact ⟨rfl, hbw⟩
  | true =>
  rw [hnm] at qn
  have hnv : nmV hint = true := by unfold nmV; rw [chk_leaf, hnm]
  have hfr := fitM_ren hok hfa
  have qr : ∀ W, RdM W a A c B d → Calls Try.prog 51 #[.agg #[.int .u8 a.f0, .string a.f1, .bool a.f2.f0, .string a.f2.f1, .slice A a.f2.f2.length c, .int .i64 a.f3, .slice B a.f4.length d], .string hint] W fun e w' => ∃ rv, e = .returned rv ∧ TrM w' rv (renM hint a) ∧ Below W.heap.size W w' := by
    intro W h
    refine (renamed_calls hint _ a (Nat.le_refl _) (by have := hfa.2; omega) A c B d W (fun k => k < W.heap.size) (fun k hk => hk) ⟨⟨Kd.C_F k24_heap h.1.1, h.1.2⟩, Kd.C_F k27_heap h.2.1, h.2.2⟩).mono ?_
    rintro e w' ⟨rv, rfl, hO, hb⟩
    exact ⟨rv, rfl, hO.tr, hb⟩
  have hcr := cmpM_ren hint a
  have hcl := cmpM_left hcr b
  have qk : ∀ W, RdM W a A c B d → Calls Try.prog 29 #[.agg #[.int .u8 a.f0, .string a.f1, .bool a.f2.f0, .string a.f2.f1, .slice A a.f2.f2.length c, .int .i64 a.f3, .slice B a.f4.length d]] W fun e w' => e = .returned (.int .i64 (chkM a)) ∧ Below W.heap.size W w' := fun W h => chkM_calls a hfa A c B d W h
  have qtf : chkM a = 0 → ∃ (u : S24) (l : List S27), (∀ x, x ∈ l → fitM x) ∧ (∀ E e1 E2 e2 W, RdM W a E e1 E2 e2 → Calls Try.prog 20 #[.agg #[.int .u8 a.f0, .string a.f1, .bool a.f2.f0, .string a.f2.f1, .slice E a.f2.f2.length e1, .int .i64 a.f3, .slice E2 a.f4.length e2]] W fun e w' => ∃ rv, e = .returned (.tuple #[rv, .int .i64 0]) ∧ Tr w' rv u ∧ Below W.heap.size W w') ∧ (∀ E e1 E2 e2 W, RdM W (renM hint a) E e1 E2 e2 → Calls Try.prog 20 #[.agg #[.int .u8 (renM hint a).f0, .string (renM hint a).f1, .bool (renM hint a).f2.f0, .string (renM hint a).f2.f1, .slice E (renM hint a).f2.f2.length e1, .int .i64 (renM hint a).f3, .slice E2 (renM hint a).f4.length e2]] W fun e w' => ∃ rv, e = .returned (.tuple #[rv, .int .i64 0]) ∧ Tr w' rv u ∧ Below W.heap.size W w') ∧ (∀ E e1 E2 e2 W, RdM W a E e1 E2 e2 → Calls Try.prog 22 #[.agg #[.int .u8 a.f0, .string a.f1, .bool a.f2.f0, .string a.f2.f1, .slice E a.f2.f2.length e1, .int .i64 a.f3, .slice E2 a.f4.length e2]] W (FreePost W (l, 0))) ∧ (∀ E e1 E2 e2 W, RdM W (renM hint a) E e1 E2 e2 → Calls Try.prog 22 #[.agg #[.int .u8 (renM hint a).f0, .string (renM hint a).f1, .bool (renM hint a).f2.f0, .string (renM hint a).f2.f1, .slice E (renM hint a).f2.f2.length e1, .int .i64 (renM hint a).f3, .slice E2 (renM hint a).f4.length e2]] W (FreePost W (l, 0))) := by
    intro hc
    obtain ⟨h1, h2⟩ := chkM_ren hint hnv hc
    refine ⟨typM a, frM a, fr_fit hfa, fun E e1 E2 e2 W h => ?_, fun E e1 E2 e2 W h => ?_, fun E e1 E2 e2 W h => ?_, fun E e1 E2 e2 W h => ?_⟩
    · have h3 := tyoM_tr a hfa _ W ⟨E, e1, E2, e2, rfl, h⟩
      rw [hc, show (tyoM a).1 = typM a by unfold tyoM; rw [if_pos hc]] at h3
      exact h3
    · have h3 := tyoM_tr (renM hint a) hfr _ W ⟨E, e1, E2, e2, rfl, h⟩
      rw [h1, show (tyoM (renM hint a)).1 = typM a by unfold tyoM; rw [if_pos h1]; exact h2] at h3
      exact h3
    · have h3 := free_all_calls a hfa E e1 E2 e2 W h
      rw [show freF a = (frM a, 0) by unfold freF; rw [if_pos hc]] at h3
      exact h3
    · have h3 := free_all_calls (renM hint a) hfr E e1 E2 e2 W h
      rw [show freF (renM hint a) = (frM a, 0) by unfold freF; rw [if_pos h1, frM_ren hint hc]] at h3
      exact h3
  have QTF := Aside0.mk qtf
  clear qtf hfr hok hnm hnv
  generalize renM hint a = r at *
  go_enter Try.func7, Try.ntmps7
  go_wp2_with (first | (go_at_call 51; (with_reducible refine (qr _ HA.2).mono ?_); rintro e Wr ⟨rv, rfl, hO, hc⟩; obtain ⟨Ar, cr, Br, dr, rfl, hR⟩ := hO; (try have HA := HA.later hc); (try have HB := HB.later hc); (try have HR := HR.later hc); (try (have BU := blk_below BU hc; have HU := Tr.later HU hc)); (try (have BV := blk_below BV hc; have HV := Tr.later HV hc)); (try have HL1 := Kd.C_below HL1 hc); (try have HL2 := Kd.C_below HL2 hc); have hbw := below_step hbw hc; have hc := below_one (w := Wr) (.cells #[.int .u8 r.f0, .string r.f1, .bool r.f2.f0, .string r.f2.f1, .slice Ar r.f2.f2.length cr, .int .i64 r.f3, .slice Br r.f4.length dr] 27); (try have HA := HA.later hc); (try have HB := HB.later hc); (try have HR := HR.later hc); (try (have BU := blk_below BU hc; have HU := Tr.later HU hc)); (try (have BV := blk_below BV hc; have HV := Tr.later HV hc)); (try have HL1 := Kd.C_below HL1 hc); (try have HL2 := Kd.C_below HL2 hc); have hbw := below_step hbw hc; have HR := HdM.new (x := r) hR; (try obtain ⟨x0, x1, x2, x3, x4, x5, x6⟩ := HA.box); (try obtain ⟨y0, y1, y2, y3, y4, y5, y6⟩ := HB.box); (try obtain ⟨z0, z1, z2, z3, z4, z5, z6⟩ := HR.box); (try (have u0 := (blk_cell BU 0).trans rfl; have u1 := (blk_cell BU 1).trans rfl; have u2 := (blk_cell BU 2).trans rfl)); (try (have v0 := (blk_cell BV 0).trans rfl; have v1 := (blk_cell BV 1).trans rfl; have v2 := (blk_cell BV 2).trans rfl))) | (go_at_call 50; (with_reducible refine (qn _).mono ?_); rintro e Wb ⟨rfl, hc⟩; (try have HA := HA.later hc); (try have HB := HB.later hc); (try have HR := HR.later hc); (try (have BU := blk_below BU hc; have HU := Tr.later HU hc)); (try (have BV := blk_below BV hc; have HV := Tr.later HV hc)); (try have HL1 := Kd.C_below HL1 hc); (try have HL2 := Kd.C_below HL2 hc); have hbw := below_step hbw hc; (try obtain ⟨x0, x1, x2, x3, x4, x5, x6⟩ := HA.box); (try obtain ⟨y0, y1, y2, y3, y4, y5, y6⟩ := HB.box); (try obtain ⟨z0, z1, z2, z3, z4, z5, z6⟩ := HR.box); (try (have u0 := (blk_cell BU 0).trans rfl; have u1 := (blk_cell BU 1).trans rfl; have u2 := (blk_cell BU 2).trans rfl)); (try (have v0 := (blk_cell BV 0).trans rfl; have v1 := (blk_cell BV 1).trans rfl; have v2 := (blk_cell BV 2).trans rfl))) | (go_at_call 16; (with_reducible refine (hgb _ HB.2).mono ?_); rintro e Wb ⟨rfl, hc⟩; (try have HA := HA.later hc); (try have HB := HB.later hc); (try have HR := HR.later hc); (try (have BU := blk_below BU hc; have HU := Tr.later HU hc)); (try (have BV := blk_below BV hc; have HV := Tr.later HV hc)); (try have HL1 := Kd.C_below HL1 hc); (try have HL2 := Kd.C_below HL2 hc); have hbw := below_step hbw hc; (try obtain ⟨x0, x1, x2, x3, x4, x5, x6⟩ := HA.box); (try obtain ⟨y0, y1, y2, y3, y4, y5, y6⟩ := HB.box); (try obtain ⟨z0, z1, z2, z3, z4, z5, z6⟩ := HR.box); (try (have u0 := (blk_cell BU 0).trans rfl; have u1 := (blk_cell BU 1).trans rfl; have u2 := (blk_cell BU 2).trans rfl)); (try (have v0 := (blk_cell BV 0).trans rfl; have v1 := (blk_cell BV 1).trans rfl; have v2 := (blk_cell BV 2).trans rfl))) | (go_at_call 16; (with_reducible refine (hga _ HA.2).mono ?_); rintro e Wb ⟨rfl, hc⟩; (try have HA := HA.later hc); (try have HB := HB.later hc); (try have HR := HR.later hc); (try (have BU := blk_below BU hc; have HU := Tr.later HU hc)); (try (have BV := blk_below BV hc; have HV := Tr.later HV hc)); (try have HL1 := Kd.C_below HL1 hc); (try have HL2 := Kd.C_below HL2 hc); have hbw := below_step hbw hc; (try obtain ⟨x0, x1, x2, x3, x4, x5, x6⟩ := HA.box); (try obtain ⟨y0, y1, y2, y3, y4, y5, y6⟩ := HB.box); (try obtain ⟨z0, z1, z2, z3, z4, z5, z6⟩ := HR.box); (try (have u0 := (blk_cell BU 0).trans rfl; have u1 := (blk_cell BU 1).trans rfl; have u2 := (blk_cell BU 2).trans rfl)); (try (have v0 := (blk_cell BV 0).trans rfl; have v1 := (blk_cell BV 1).trans rfl; have v2 := (blk_cell BV 2).trans rfl))) | (go_at_call 15; rw [HM.out]; refine (aliveM_calls _).mono ?_; rintro e Wb ⟨rfl, hc⟩; (try have HA := HA.later hc); (try have HB := HB.later hc); (try have HR := HR.later hc); (try (have BU := blk_below BU hc; have HU := Tr.later HU hc)); (try (have BV := blk_below BV hc; have HV := Tr.later HV hc)); (try have HL1 := Kd.C_below HL1 hc); (try have HL2 := Kd.C_below HL2 hc); have hbw := below_step hbw hc; (try obtain ⟨x0, x1, x2, x3, x4, x5, x6⟩ := HA.box); (try obtain ⟨y0, y1, y2, y3, y4, y5, y6⟩ := HB.box); (try obtain ⟨z0, z1, z2, z3, z4, z5, z6⟩ := HR.box); (try (have u0 := (blk_cell BU 0).trans rfl; have u1 := (blk_cell BU 1).trans rfl; have u2 := (blk_cell BU 2).trans rfl)); (try (have v0 := (blk_cell BV 0).trans rfl; have v1 := (blk_cell BV 1).trans rfl; have v2 := (blk_cell BV 2).trans rfl))))
  clear hga hgb qn qr
  generalize hwk : Wr.alloc (.cells #[.int .u8 r.f0, .string r.f1, .bool r.f2.f0, .string r.f2.f1, .slice Ar r.f2.f2.length cr, .int .i64 r.f3, .slice Br r.f4.length dr] 27) = Wk at *
  have HWK := Lib.hid hwk
  clear hwk
  have hD := below_drew1 (Below.refl Wk.heap.size Wk)
  have hK0 : HnS w Wk a b r w.heap.size (w.heap.size + 1) Wr.heap.size A A' Ar B B' Br c c' cr d d' dr Wk.drew := HnS.step ⟨⟨HA.box, HB.box, HR.box⟩, Below.refl _ _, hbw⟩ hD
  have rA := HA.2
  have rB := HB.2
  have rR := HR.2
  have hk := (cmpM_O a b).1
  have hsr : (cmpM a r == 0) = true := by rw [hcr]; rfl
  have c1 : ∀ W, HnS w Wk a b r w.heap.size (w.heap.size + 1) Wr.heap.size A A' Ar B B' Br c c' cr d d' dr W → Calls Try.prog 18 #[.agg #[.int .u8 a.f0, .string a.f1, .bool a.f2.f0, .string a.f2.f1, .slice A a.f2.f2.length c, .int .i64 a.f3, .slice B a.f4.length d], .agg #[.int .u8 r.f0, .string r.f1, .bool r.f2.f0, .string r.f2.f1, .slice Ar r.f2.f2.length cr, .int .i64 r.f3, .slice Br r.f4.length dr]] W fun e w' => e = .returned (.bool true) ∧ HnS w Wk a b r w.heap.size (w.heap.size + 1) Wr.heap.size A A' Ar B B' Br c c' cr d d' dr w' := fun W hw => (hsr ▸ sameM_tr a r _ _ W ⟨_, _, _, _, rfl, rA.later hw.2.1⟩ ⟨_, _, _, _, rfl, rR.later hw.2.1⟩).mono (fun _ _ h => And.intro h.1 (hw.step h.2))
  have c2 : ∀ W, HnS w Wk a b r w.heap.size (w.heap.size + 1) Wr.heap.size A A' Ar B B' Br c c' cr d d' dr W → Calls Try.prog 17 #[.agg #[.int .u8 r.f0, .string r.f1, .bool r.f2.f0, .string r.f2.f1, .slice Ar r.f2.f2.length cr, .int .i64 r.f3, .slice Br r.f4.length dr], .agg #[.int .u8 b.f0, .string b.f1, .bool b.f2.f0, .string b.f2.f1, .slice A' b.f2.f2.length c', .int .i64 b.f3, .slice B' b.f4.length d']] W fun e w' => e = .returned (.int .i64 (cmpM a b)) ∧ HnS w Wk a b r w.heap.size (w.heap.size + 1) Wr.heap.size A A' Ar B B' Br c c' cr d d' dr w' := fun W hw => (hcl ▸ compareM_ok _ r b (Nat.le_refl _) Ar cr Br dr A' c' B' d' W (rR.later hw.2.1) (rB.later hw.2.1)).mono (fun _ _ h => And.intro h.1 (hw.step h.2))
  have c3 : ∀ W, HnS w Wk a b r w.heap.size (w.heap.size + 1) Wr.heap.size A A' Ar B B' Br c c' cr d d' dr W → Calls Try.prog 17 #[.agg #[.int .u8 a.f0, .string a.f1, .bool a.f2.f0, .string a.f2.f1, .slice A a.f2.f2.length c, .int .i64 a.f3, .slice B a.f4.length d], .agg #[.int .u8 b.f0, .string b.f1, .bool b.f2.f0, .string b.f2.f1, .slice A' b.f2.f2.length c', .int .i64 b.f3, .slice B' b.f4.length d']] W fun e w' => e = .returned (.int .i64 (cmpM a b)) ∧ HnS w Wk a b r w.heap.size (w.heap.size + 1) Wr.heap.size A A' Ar B B' Br c c' cr d d' dr w' := fun W hw => (compareM_ok _ a b (Nat.le_refl _) A c B d A' c' B' d' W (rA.later hw.2.1) (rB.later hw.2.1)).mono (fun _ _ h => And.intro h.1 (hw.step h.2))
  generalize cmpM a b = k at *
  have hkk : (k != k) = false := by simp
  have HAA := Aside0.mk HA
  have HBB := Aside0.mk HB
  have HRR := Aside0.mk HR
  clear HA HB HR hcr hcl rA rB rR hbw hsr hk x0 x1 x2 x3 x4 x5 x6 y0 y1 y2 y3 y4 y5 y6 z0 z1 z2 z3 z4 z5 z6
  go_region_held3 (fun W => HnS w Wk a b r w.heap.size (w.heap.size + 1) Wr.heap.size A A' Ar B B' Br c c' cr d d' dr W)
    (first | (with_reducible exact hK0) | (with_reducible assumption))
    (first | (go_at_call 18; (with_reducible refine (c1 _ (by with_reducible assumption)).mono ?_); rintro e W1 ⟨rfl, hN⟩) | (go_at_call 17; (with_reducible refine (c2 _ (by with_reducible assumption)).mono ?_); rintro e W1 ⟨rfl, hN⟩) | (go_at_call 17; (with_reducible refine (c3 _ (by with_reducible assumption)).mono ?_); rintro e W1 ⟨rfl, hN⟩))
  clear c1 c2 c3 hK0 hkk
  have hc := hN.2.1
  have HA := HAA.out.later hc
  have HB := HBB.out.later hc
  have HR := HRR.out.later hc
  have hbw := hN.2.2
  obtain ⟨x0, x1, x2, x3, x4, x5, x6⟩ := HA.box
  obtain ⟨y0, y1, y2, y3, y4, y5, y6⟩ := HB.box
  obtain ⟨z0, z1, z2, z3, z4, z5, z6⟩ := HR.box
  clear hN HAA HBB HRR hD
  by_cases hz : chkM a ≠ 0
  · have p1 : (chkM a != 0) = true := bne_iff_ne.mpr hz
    clear hz QTF hfa
    generalize chkM a = er at *
    go_wp2_with (go_at_call 29; (with_reducible refine (qk _ HA.2).mono ?_); rintro e Wb ⟨rfl, hc⟩; (try have HA := HA.later hc); (try have HB := HB.later hc); (try have HR := HR.later hc); (try (have BU := blk_below BU hc; have HU := Tr.later HU hc)); (try (have BV := blk_below BV hc; have HV := Tr.later HV hc)); (try have HL1 := Kd.C_below HL1 hc); (try have HL2 := Kd.C_below HL2 hc); have hbw := below_step hbw hc; (try obtain ⟨x0, x1, x2, x3, x4, x5, x6⟩ := HA.box); (try obtain ⟨y0, y1, y2, y3, y4, y5, y6⟩ := HB.box); (try obtain ⟨z0, z1, z2, z3, z4, z5, z6⟩ := HR.box); (try (have u0 := (blk_cell BU 0).trans rfl; have u1 := (blk_cell BU 1).trans rfl; have u2 := (blk_cell BU 2).trans rfl)); (try (have v0 := (blk_cell BV 0).trans rfl; have v1 := (blk_cell BV 1).trans rfl; have v2 := (blk_cell BV 2).trans rfl)))
    go_ret
    exact ⟨rfl, hbw⟩
  replace hz : chkM a = 0 := Decidable.not_not.mp hz
  obtain ⟨u, l, hfl, qt, qt2, qf, qf2⟩ := QTF.out hz
  rw [hz] at qk
  have qs : ∀ x y W, Tr W x u → Tr W y u → Calls Try.prog 52 #[x, y] W fun e w' => e = .returned (.bool true) ∧ Below W.heap.size W w' := by
    intro x y W hx hy
    have h := same_tr u u x y W hx hy
    rw [cmpT_self] at h
    exact h
  have qa := fun L cl L' cl' W h1 h2 h3 h4 => rsameAll_self l hfl L cl L' cl' W h1 h2 h3 h4
  clear QTF hz hfl hfa
  go_wp2_with (first | (go_at_call 32; (with_reducible refine (qa _ _ _ _ _ HL1 hll1 HL2 hll2).mono ?_); rintro e Wb ⟨rfl, hc⟩; (try have HA := HA.later hc); (try have HB := HB.later hc); (try have HR := HR.later hc); (try (have BU := blk_below BU hc; have HU := Tr.later HU hc)); (try (have BV := blk_below BV hc; have HV := Tr.later HV hc)); (try have HL1 := Kd.C_below HL1 hc); (try have HL2 := Kd.C_below HL2 hc); have hbw := below_step hbw hc; (try obtain ⟨x0, x1, x2, x3, x4, x5, x6⟩ := HA.box); (try obtain ⟨y0, y1, y2, y3, y4, y5, y6⟩ := HB.box); (try obtain ⟨z0, z1, z2, z3, z4, z5, z6⟩ := HR.box); (try (have u0 := (blk_cell BU 0).trans rfl; have u1 := (blk_cell BU 1).trans rfl; have u2 := (blk_cell BU 2).trans rfl)); (try (have v0 := (blk_cell BV 0).trans rfl; have v1 := (blk_cell BV 1).trans rfl; have v2 := (blk_cell BV 2).trans rfl))) | (go_at_call 52; refine (qs _ _ _ HU HV).mono ?_; rintro e Wb ⟨rfl, hc⟩; (try have HA := HA.later hc); (try have HB := HB.later hc); (try have HR := HR.later hc); (try (have BU := blk_below BU hc; have HU := Tr.later HU hc)); (try (have BV := blk_below BV hc; have HV := Tr.later HV hc)); (try have HL1 := Kd.C_below HL1 hc); (try have HL2 := Kd.C_below HL2 hc); have hbw := below_step hbw hc; (try obtain ⟨x0, x1, x2, x3, x4, x5, x6⟩ := HA.box); (try obtain ⟨y0, y1, y2, y3, y4, y5, y6⟩ := HB.box); (try obtain ⟨z0, z1, z2, z3, z4, z5, z6⟩ := HR.box); (try (have u0 := (blk_cell BU 0).trans rfl; have u1 := (blk_cell BU 1).trans rfl; have u2 := (blk_cell BU 2).trans rfl)); (try (have v0 := (blk_cell BV 0).trans rfl; have v1 := (blk_cell BV 1).trans rfl; have v2 := (blk_cell BV 2).trans rfl))) | (go_at_call 22; (with_reducible refine (qf2 _ _ _ _ _ HR.2).mono ?_); rintro e Wf2 ⟨rv, rfl, hO, hc⟩; obtain ⟨RM, RMc, rfl, hll2, hCL⟩ := hO.reads; dsimp only at hll2 hCL ⊢; (try have HA := HA.later hc); (try have HB := HB.later hc); (try have HR := HR.later hc); (try (have BU := blk_below BU hc; have HU := Tr.later HU hc)); (try (have BV := blk_below BV hc; have HV := Tr.later HV hc)); (try have HL1 := Kd.C_below HL1 hc); (try have HL2 := Kd.C_below HL2 hc); have hbw := below_step hbw hc; have HL2 := hCL; (try obtain ⟨x0, x1, x2, x3, x4, x5, x6⟩ := HA.box); (try obtain ⟨y0, y1, y2, y3, y4, y5, y6⟩ := HB.box); (try obtain ⟨z0, z1, z2, z3, z4, z5, z6⟩ := HR.box); (try (have u0 := (blk_cell BU 0).trans rfl; have u1 := (blk_cell BU 1).trans rfl; have u2 := (blk_cell BU 2).trans rfl)); (try (have v0 := (blk_cell BV 0).trans rfl; have v1 := (blk_cell BV 1).trans rfl; have v2 := (blk_cell BV 2).trans rfl))) | (go_at_call 22; (with_reducible refine (qf _ _ _ _ _ HA.2).mono ?_); rintro e Wf1 ⟨rv, rfl, hO, hc⟩; obtain ⟨RL, RLc, rfl, hll1, hCL⟩ := hO.reads; dsimp only at hll1 hCL ⊢; (try have HA := HA.later hc); (try have HB := HB.later hc); (try have HR := HR.later hc); (try (have BU := blk_below BU hc; have HU := Tr.later HU hc)); (try (have BV := blk_below BV hc; have HV := Tr.later HV hc)); (try have HL1 := Kd.C_below HL1 hc); (try have HL2 := Kd.C_below HL2 hc); have hbw := below_step hbw hc; have HL1 := hCL; (try obtain ⟨x0, x1, x2, x3, x4, x5, x6⟩ := HA.box); (try obtain ⟨y0, y1, y2, y3, y4, y5, y6⟩ := HB.box); (try obtain ⟨z0, z1, z2, z3, z4, z5, z6⟩ := HR.box); (try (have u0 := (blk_cell BU 0).trans rfl; have u1 := (blk_cell BU 1).trans rfl; have u2 := (blk_cell BU 2).trans rfl)); (try (have v0 := (blk_cell BV 0).trans rfl; have v1 := (blk_cell BV 1).trans rfl; have v2 := (blk_cell BV 2).trans rfl))) | (go_at_call 20; (with_reducible refine (qt2 _ _ _ _ _ HR.2).mono ?_); rintro e Wt2 ⟨rv, rfl, hO, hc⟩; obtain ⟨Av, cv, rfl, hlu, hCu⟩ := hO; dsimp only at hlu hCu ⊢; (try have HA := HA.later hc); (try have HB := HB.later hc); (try have HR := HR.later hc); (try (have BU := blk_below BU hc; have HU := Tr.later HU hc)); (try (have BV := blk_below BV hc; have HV := Tr.later HV hc)); (try have HL1 := Kd.C_below HL1 hc); (try have HL2 := Kd.C_below HL2 hc); have hbw := below_step hbw hc; have hc := below_one (w := Wt2) (.cells #[.bool u.f0, .string u.f1, .slice Av u.f2.length cv] 24); (try have HA := HA.later hc); (try have HB := HB.later hc); (try have HR := HR.later hc); (try (have BU := blk_below BU hc; have HU := Tr.later HU hc)); (try (have BV := blk_below BV hc; have HV := Tr.later HV hc)); (try have HL1 := Kd.C_below HL1 hc); (try have HL2 := Kd.C_below HL2 hc); have hbw := below_step hbw hc; have BV := blk_new Wt2 (.cells #[.bool u.f0, .string u.f1, .slice Av u.f2.length cv] 24); have HV : Tr (Wt2.alloc (.cells #[.bool u.f0, .string u.f1, .slice Av u.f2.length cv] 24)) (.agg #[.bool u.f0, .string u.f1, .slice Av u.f2.length cv]) u := Tr.later ⟨Av, cv, rfl, hlu, hCu⟩ hc; (try obtain ⟨x0, x1, x2, x3, x4, x5, x6⟩ := HA.box); (try obtain ⟨y0, y1, y2, y3, y4, y5, y6⟩ := HB.box); (try obtain ⟨z0, z1, z2, z3, z4, z5, z6⟩ := HR.box); (try (have u0 := (blk_cell BU 0).trans rfl; have u1 := (blk_cell BU 1).trans rfl; have u2 := (blk_cell BU 2).trans rfl)); (try (have v0 := (blk_cell BV 0).trans rfl; have v1 := (blk_cell BV 1).trans rfl; have v2 := (blk_cell BV 2).trans rfl))) | (go_at_call 20; (with_reducible refine (qt _ _ _ _ _ HA.2).mono ?_); rintro e Wt1 ⟨rv, rfl, hO, hc⟩; obtain ⟨Au, cu, rfl, hlu, hCu⟩ := hO; dsimp only at hlu hCu ⊢; (try have HA := HA.later hc); (try have HB := HB.later hc); (try have HR := HR.later hc); (try (have BU := blk_below BU hc; have HU := Tr.later HU hc)); (try (have BV := blk_below BV hc; have HV := Tr.later HV hc)); (try have HL1 := Kd.C_below HL1 hc); (try have HL2 := Kd.C_below HL2 hc); have hbw := below_step hbw hc; have hc := below_one (w := Wt1) (.cells #[.bool u.f0, .string u.f1, .slice Au u.f2.length cu] 24); (try have HA := HA.later hc); (try have HB := HB.later hc); (try have HR := HR.later hc); (try (have BU := blk_below BU hc; have HU := Tr.later HU hc)); (try (have BV := blk_below BV hc; have HV := Tr.later HV hc)); (try have HL1 := Kd.C_below HL1 hc); (try have HL2 := Kd.C_below HL2 hc); have hbw := below_step hbw hc; have BU := blk_new Wt1 (.cells #[.bool u.f0, .string u.f1, .slice Au u.f2.length cu] 24); have HU : Tr (Wt1.alloc (.cells #[.bool u.f0, .string u.f1, .slice Au u.f2.length cu] 24)) (.agg #[.bool u.f0, .string u.f1, .slice Au u.f2.length cu]) u := Tr.later ⟨Au, cu, rfl, hlu, hCu⟩ hc; (try obtain ⟨x0, x1, x2, x3, x4, x5, x6⟩ := HA.box); (try obtain ⟨y0, y1, y2, y3, y4, y5, y6⟩ := HB.box); (try obtain ⟨z0, z1, z2, z3, z4, z5, z6⟩ := HR.box); (try (have u0 := (blk_cell BU 0).trans rfl; have u1 := (blk_cell BU 1).trans rfl; have u2 := (blk_cell BU 2).trans rfl)); (try (have v0 := (blk_cell BV 0).trans rfl; have v1 := (blk_cell BV 1).trans rfl; have v2 := (blk_cell BV 2).trans rfl))) | (go_at_call 29; (with_reducible refine (qk _ HA.2).mono ?_); rintro e Wb ⟨rfl, hc⟩; (try have HA := HA.later hc); (try have HB := HB.later hc); (try have HR := HR.later hc); (try (have BU := blk_below BU hc; have HU := Tr.later HU hc)); (try (have BV := blk_below BV hc; have HV := Tr.later HV hc)); (try have HL1 := Kd.C_below HL1 hc); (try have HL2 := Kd.C_below HL2 hc); have hbw := below_step hbw hc; (try obtain ⟨x0, x1, x2, x3, x4, x5, x6⟩ := HA.box); (try obtain ⟨y0, y1, y2, y3, y4, y5, y6⟩ := HB.box); (try obtain ⟨z0, z1, z2, z3, z4, z5, z6⟩ := HR.box); (try (have u0 := (blk_cell BU 0).trans rfl; have u1 := (blk_cell BU 1).trans rfl; have u2 := (blk_cell BU 2).trans rfl)); (try (have v0 := (blk_cell BV 0).trans rfl; have v1 := (blk_cell BV 1).trans rfl; have v2 := (blk_cell BV 2).trans rfl))))
  go_ret
  exact ⟨rfl, hbw⟩
end Go.Proofs.Ytecplbgdalchdaa.Q
