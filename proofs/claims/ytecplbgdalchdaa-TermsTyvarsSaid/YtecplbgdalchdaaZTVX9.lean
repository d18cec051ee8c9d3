/- Proved here: parts of the proof of a given statement (HRowTermsTyvars): contracts of the functions that it reaches, what they answer, and in the last text the statement itself. Conditions: those that each theorem names. -/
import Derived.Test.YtecplbgdalchdaaZTVX7
import Derived.Test.YtecplbgdalchdaaZTVX8
import Derived.Test.YtecplbgdalchdaaZTVX6
import Derived.Deep.RegionHeld3
import Derived.Test.YtecplbgdalchdaaZTVX3
import Derived.BigQuiet
/- Proved here: terms in memory that are read. Conditions: those that each theorem names. -/
namespace Go.Proofs.Ytecplbgdalchdaa.Q
open Go.RowKit Go.Shelf Go.Proofs.YtecplbgdalchdaaW.PrintWords Go.Proofs.YtecplbgdalchdaaW.PrintMore
set_option linter.unusedVariables false
set_option linter.unusedSimpArgs false
attribute [local go_sem] Oper.semAt_some

/-- The rows of a term are read so. -/
def RdM (w : World) (x : S27) (A : Option Addr) (c : Nat) (B : Option Addr) (d : Nat) : Prop := (k24.C w A x.f2.f2.length x.f2.f2 ∧ x.f2.f2.length ≤ c) ∧ k27.C w B x.f4.length x.f4 ∧ x.f4.length ≤ d
theorem RdM.later {w w' : World} {x : S27} {A B : Option Addr} {c d : Nat} (h : RdM w x A c B d) (hb : Below w.heap.size w w') : RdM w' x A c B d := ⟨⟨Kd.C_below h.1.1 hb, h.1.2⟩, Kd.C_below h.2.1 hb, h.2.2⟩
/-- A value that reads as a term. -/
def TrM (w : World) (a : Value) (x : S27) : Prop := ∃ A c B d, a = .agg #[.int .u8 x.f0, .string x.f1, .bool x.f2.f0, .string x.f2.f1, .slice A x.f2.f2.length c, .int .i64 x.f3, .slice B x.f4.length d] ∧ RdM w x A c B d
theorem RdM.ty {w : World} {x : S27} {A B : Option Addr} {c d : Nat} (h : RdM w x A c B d) : Tr w (.agg #[.bool x.f2.f0, .string x.f2.f1, .slice A x.f2.f2.length c]) x.f2 := ⟨A, c, rfl, h.1.2, h.1.1⟩
theorem box7 {w : World} {g : Nat} {t : TypeId} {a b c d e f h : Value} (hg : w.heap[g]? = some (.cells #[a, b, c, d, e, f, h] t (0, 0))) :
    w.cell? ⟨g, 0, none⟩ = some a ∧ w.cell? ⟨g, 1, none⟩ = some b ∧ w.cell? ⟨g, 2, none⟩ = some c ∧ w.cell? ⟨g, 3, none⟩ = some d ∧ w.cell? ⟨g, 4, none⟩ = some e ∧ w.cell? ⟨g, 5, none⟩ = some f ∧ w.cell? ⟨g, 6, none⟩ = some h :=
  ⟨(blk_cell hg 0).trans rfl, (blk_cell hg 1).trans rfl, (blk_cell hg 2).trans rfl, (blk_cell hg 3).trans rfl, (blk_cell hg 4).trans rfl, (blk_cell hg 5).trans rfl, (blk_cell hg 6).trans rfl⟩
/-- The cells of a boxed term. -/
abbrev BxM (W : World) (g : Nat) (x : S27) (A : Option Addr) (c : Nat) (B : Option Addr) (d : Nat) : Prop :=
  W.cell? ⟨g, 0, none⟩ = some (.int .u8 x.f0) ∧ W.cell? ⟨g, 1, none⟩ = some (.string x.f1) ∧ W.cell? ⟨g, 2, none⟩ = some (.bool x.f2.f0) ∧ W.cell? ⟨g, 3, none⟩ = some (.string x.f2.f1) ∧ W.cell? ⟨g, 4, none⟩ = some (.slice A x.f2.f2.length c) ∧ W.cell? ⟨g, 5, none⟩ = some (.int .i64 x.f3) ∧ W.cell? ⟨g, 6, none⟩ = some (.slice B x.f4.length d)
theorem BxM.step {W W' : World} {g : Nat} {x : S27} {A B : Option Addr} {c d : Nat} (h : BxM W g x A c B d) (hb : Below W.heap.size W W') : BxM W' g x A c B d := by
  obtain ⟨h0, h1, h2, h3, h4, h5, h6⟩ := h
  exact ⟨pw_cell_below hb h0, pw_cell_below hb h1, pw_cell_below hb h2, pw_cell_below hb h3, pw_cell_below hb h4, pw_cell_below hb h5, pw_cell_below hb h6⟩
theorem drop_tm (l : List S27) (k : Nat) (h : k < l.length) : l.drop k = rd_T27 l (k : Int) :: l.drop (k + 1) := drop_rd l z27 k h
theorem rdM (l : List S27) (j : Nat) (h : j < l.length) : rd_T27 l (j : Int) = l[j] := by
  unfold rd_T27
  simp only [Int.toNat_natCast]
  rw [List.getD_eq_getElem?_getD, List.getElem?_eq_getElem h]
  rfl
/-- The rows of a term are read so, and lie in blocks that ok tells. -/
def RdF (w : World) (ok : Nat → Prop) (x : S27) (A : Option Addr) (c : Nat) (B : Option Addr) (d : Nat) : Prop := (Kd.F k24 w ok A x.f2.f2.length x.f2.f2 ∧ x.f2.f2.length ≤ c) ∧ Kd.F k27 w ok B x.f4.length x.f4 ∧ x.f4.length ≤ d
theorem RdF.rd {w : World} {ok : Nat → Prop} {x : S27} {A B : Option Addr} {c d : Nat} (h : RdF w ok x A c B d) : RdM w x A c B d := ⟨⟨Kd.F_now h.1.1, h.1.2⟩, Kd.F_now h.2.1, h.2.2⟩
theorem RdF.at {w w' : World} {ok : Nat → Prop} {x : S27} {A B : Option Addr} {c d : Nat} (h : RdF w ok x A c B d) (hb : Below w.heap.size w w') : RdM w' x A c B d := h.rd.later hb
theorem RdF.later {w w' : World} {ok : Nat → Prop} {x : S27} {A B : Option Addr} {c d : Nat} (h : RdF w ok x A c B d) (hb : Below w.heap.size w w') : RdF w' ok x A c B d := ⟨⟨Kd.F_below h.1.1 hb, h.1.2⟩, Kd.F_below h.2.1 hb, h.2.2⟩
theorem RdF.mono {w : World} {ok ok' : Nat → Prop} {x : S27} {A B : Option Addr} {c d : Nat} (h : RdF w ok x A c B d) (hok : ∀ k, ok k → ok' k) : RdF w ok' x A c B d := ⟨⟨Kd.F_mono h.1.1 hok, h.1.2⟩, Kd.F_mono h.2.1 hok, h.2.2⟩
/-- A type that is read so. -/
def TrF (w : World) (ok : Nat → Prop) (a : Value) (u : S24) : Prop := ∃ A c, a = .agg #[.bool u.f0, .string u.f1, .slice A u.f2.length c] ∧ u.f2.length ≤ c ∧ Kd.F k24 w ok A u.f2.length u.f2
theorem TrF.tr {w : World} {ok : Nat → Prop} {a : Value} {u : S24} (h : TrF w ok a u) : Tr w a u := by
  obtain ⟨A, c, h1, h2, h3⟩ := h
  exact ⟨A, c, h1, h2, Kd.F_now h3⟩
theorem nilF (A : Option Addr) (w : World) (ok : Nat → Prop) : Kd.F k24 w ok A ([] : List S24).length [] := fun W' _ => nilC A W'
theorem TrF.leaf (v : Bool) (n : ByteArray) (w : World) (ok : Nat → Prop) : TrF w ok (.agg #[.bool v, .string n, .slice none 0 0]) ⟨v, n, []⟩ := ⟨none, 0, rfl, Nat.le_refl _, nilF _ _ _⟩
/-- Element i of a row of terms. -/
theorem tm_elem {w : World} {base : Nat} {ok : Nat → Prop} {A : Option Addr} {c : Nat} {l : List S27} (h : Kd.V k27 27 w base ok (.slice A l.length c) l) (i : Nat) (hi : i < l.length) :
    ∃ ad A4 c4 A6 c6, A = some ad ∧ (w.cell? (ad.add (i * 7)) = some (.int .u8 (rd_T27 l i).f0) ∧ w.cell? ⟨(ad.add (i * 7)).block, (ad.add (i * 7)).off + 1, none⟩ = some (.string (rd_T27 l i).f1) ∧ w.cell? ⟨(ad.add (i * 7)).block, (ad.add (i * 7)).off + 2, none⟩ = some (.bool (rd_T27 l i).f2.f0) ∧ w.cell? ⟨(ad.add (i * 7)).block, (ad.add (i * 7)).off + 3, none⟩ = some (.string (rd_T27 l i).f2.f1) ∧ w.cell? ⟨(ad.add (i * 7)).block, (ad.add (i * 7)).off + 4, none⟩ = some (.slice A4 (rd_T27 l i).f2.f2.length c4) ∧ w.cell? ⟨(ad.add (i * 7)).block, (ad.add (i * 7)).off + 5, none⟩ = some (.int .i64 (rd_T27 l i).f3) ∧ w.cell? ⟨(ad.add (i * 7)).block, (ad.add (i * 7)).off + 6, none⟩ = some (.slice A6 (rd_T27 l i).f4.length c6)) ∧ RdF w ok (rd_T27 l i) A4 c4 A6 c6 := by
  obtain ⟨ad, A4, c4, A6, c6, rfl, h0, h1, h2, h3, h4, h5, h6, l4, i4, l6, i6⟩ := at_T27 (Kd.V_reads' h).2.2 (i : Int) (by omega) (by omega)
  obtain ⟨ce, hce, hM, hcc⟩ := Kd.V_get h z27 (i : Int) (by omega) (by omega)
  obtain ⟨u4, k4, u6, k6, rfl, ul4, ge4, ul6, ge6⟩ := k27_openF hM
  have hv4 := hcc 4 _ rfl
  have hv6 := hcc 6 _ rfl
  rw [show k27.sz = 7 from rfl, add_field _ _ 4 (by omega)] at hv4
  rw [show k27.sz = 7 from rfl, add_field _ _ 6 (by omega)] at hv6
  replace hv4 := Option.some.inj (hv4.symm.trans h4)
  replace hv6 := Option.some.inj (hv6.symm.trans h6)
  injection hv4 with ha hn hc
  injection hv6 with ha2 hn2 hc2
  rw [ha] at ge4
  rw [hc] at ul4
  rw [ha2] at ge6
  rw [hc2] at ul6
  simp only [Int.toNat_natCast] at h0 h1 h2 h3 h4 h5 h6
  exact ⟨ad, A4, c4, A6, c6, rfl, ⟨h0, h1, h2, h3, h4, h5, h6⟩, ⟨ge4, ul4⟩, ge6, ul6⟩
end Go.Proofs.Ytecplbgdalchdaa.Q
/- Proved here: trees of terms in memory that may be written. Conditions: those that each theorem names. -/
namespace Go.Proofs.Ytecplbgdalchdaa.Q
open Go.RowKit Go.Shelf Go.Proofs.YtecplbgdalchdaaW.PrintWords Go.Proofs.YtecplbgdalchdaaW.PrintMore
set_option linter.unusedVariables false
set_option linter.unusedSimpArgs false

/-- Terms of the call's own: each row lies in a block of its own kind, not frozen. -/
inductive WTM (w : World) (ok : Nat → Prop) : Value → List S27 → Prop where
  | nil (A : Option Addr) (c : Nat) : WTM w ok (.slice A 0 c) []
  | row (g cap : Nat) (cur : Array Value) (l : List S27) (ts ss : Nat → Value) (hn : 0 < l.length) (hg : ok g) (hb : w.heap[g]? = some (.cells cur 27 (0, 0)))
      (hl : l.length ≤ cap) (hm : cap ≤ 9223372036854775807) (hz : cur.size = cap * 7)
      (h0 : ∀ j, j < l.length → cur[j * 7]? = some (.int .u8 (rd_T27 l (j : Int)).f0) ∧ cur[j * 7 + 1]? = some (.string (rd_T27 l (j : Int)).f1) ∧ cur[j * 7 + 2]? = some (.bool (rd_T27 l (j : Int)).f2.f0) ∧ cur[j * 7 + 3]? = some (.string (rd_T27 l (j : Int)).f2.f1) ∧ cur[j * 7 + 4]? = some (ts j) ∧ cur[j * 7 + 5]? = some (.int .i64 (rd_T27 l (j : Int)).f3) ∧ cur[j * 7 + 6]? = some (ss j))
      (ht : ∀ j, j < l.length → WT w ok (ts j) (rd_T27 l (j : Int)).f2.f2) (hr : ∀ j, j < l.length → WTM w ok (ss j) (rd_T27 l (j : Int)).f4) : WTM w ok (.slice (some ⟨g, 0, none⟩) l.length cap) l
theorem WTM.mono {w : World} {ok ok' : Nat → Prop} {v : Value} {l : List S27} (h : WTM w ok v l) (hok : ∀ k, ok k → ok' k) : WTM w ok' v l := by
  induction h with
  | nil A c => exact .nil A c
  | row g cap cur l ts ss hn hg hb hl hm hz h0 ht hr ih => exact .row g cap cur l ts ss hn (hok g hg) hb hl hm hz h0 (fun j hj => (ht j hj).mono hok) (fun j hj => ih j hj)
theorem WTM.step {w w1 : World} {ok : Nat → Prop} {v : Value} {l : List S27} (h : WTM w ok v l) (hm : ∀ k, ok k → k < w.heap.size → w1.heap[k]? = w.heap[k]?) : WTM w1 ok v l := by
  induction h with
  | nil A c => exact .nil A c
  | row g cap cur l ts ss hn hg hb hl hm' hz h0 ht hr ih => exact .row g cap cur l ts ss hn hg ((hm g hg (blk_lt hb)).trans hb) hl hm' hz h0 (fun j hj => (ht j hj).step hm) (fun j hj => ih j hj)
theorem WTM.later {w w1 : World} {ok : Nat → Prop} {v : Value} {l : List S27} (h : WTM w ok v l) (hb : Below w.heap.size w w1) : WTM w1 ok v l := h.step (fun k _ hk => hb.block k hk)
theorem rm_get (l : List S27) (j : Nat) (p : S27) (h : l[j]? = some p) : j < l.length ∧ rd_T27 l (j : Int) = p := by
  obtain ⟨hj, hp⟩ := List.getElem?_eq_some_iff.1 h
  exact ⟨hj, by rw [rdM l j hj]; exact hp⟩
theorem WTM.reads {w : World} {ok : Nat → Prop} {v : Value} {l : List S27} (h : WTM w ok v l) : ∃ A c, v = .slice A l.length c ∧ l.length ≤ c ∧ k27.C w A l.length l := by
  induction h with
  | nil A c => exact ⟨A, c, rfl, Nat.zero_le _, rfl, by simp, fun h => absurd h (by simp)⟩
  | row g cap cur l ts ss hn hg hb hl hm hz h0 ht hr ih =>
    refine ⟨_, _, rfl, hl, rfl, by omega, fun _ => ⟨_, rfl, fun j p hj => ?_⟩⟩
    obtain ⟨hjl, hp⟩ := rm_get l j p hj
    obtain ⟨A, c, hv, hlc, hC⟩ := ih j hjl
    obtain ⟨A2, c2, hv2, hlc2, hC2⟩ := (ht j hjl).reads
    obtain ⟨g0, g1, g2, g3, g4, g5, g6⟩ := h0 j hjl
    rw [hp] at g0 g1 g2 g3 g5 hv hlc hC hv2 hlc2 hC2
    rw [hv] at g6
    rw [hv2] at g4
    refine ⟨[.int .u8 p.f0, .string p.f1, .bool p.f2.f0, .string p.f2.f1, .slice A2 p.f2.f2.length c2, .int .i64 p.f3, .slice A p.f4.length c], rfl, k27_mk w p hlc2 hC2 hlc hC, fun i u hu => ?_⟩
    show w.cell? (Addr.add ⟨g, 0, none⟩ (j * 7 + i)) = some u
    rw [add_zero_spot, blk_cell hb]
    match i, hu with
    | 0, hu => exact g0.trans hu
    | 1, hu => exact g1.trans hu
    | 2, hu => exact g2.trans hu
    | 3, hu => exact g3.trans hu
    | 4, hu => exact g4.trans hu
    | 5, hu => exact g5.trans hu
    | 6, hu => exact g6.trans hu
    | i + 7, hu => simp at hu
/-- A term of the call's own. -/
def OwM (w : World) (ok : Nat → Prop) (a : Value) (x : S27) : Prop := ∃ vt vs, a = .agg #[.int .u8 x.f0, .string x.f1, .bool x.f2.f0, .string x.f2.f1, vt, .int .i64 x.f3, vs] ∧ WT w ok vt x.f2.f2 ∧ WTM w ok vs x.f4
theorem OwM.tr {w : World} {ok : Nat → Prop} {a : Value} {x : S27} (h : OwM w ok a x) : TrM w a x := by
  obtain ⟨vt, vs, rfl, h1, h2⟩ := h
  obtain ⟨A, c, rfl, hl, hC⟩ := h1.reads
  obtain ⟨B, d, rfl, hl2, hC2⟩ := h2.reads
  exact ⟨A, c, B, d, rfl, ⟨hC, hl⟩, hC2, hl2⟩
/-- The parts of an own term. -/
theorem run_mkM (W : World) (n : Nat) (hn : n ≤ 1000000000) : (Instr.makeSlice 25 (.int .i64 (n : Int)) (.int .i64 (n : Int))).run Try.prog W = .ok (.slice (some ⟨W.heap.size, 0, none⟩) n n) (W.alloc (.cells (madeCells #[.int .u8 0, .string ⟨#[]⟩, .bool false, .string ⟨#[]⟩, .slice none 0 0, .int .i64 0, .slice none 0 0] (n * 7)) 27)) := by
  obtain ⟨i0, hi, hz0, hz1, hz2⟩ := info_parts info27
  have h := run_make (P := Try.prog) W 25 27 i0 _ Try.underlying25 hi hz0 .i64 .i64 (n : Int) (n : Int) (by omega) (by omega) (by rw [hz2]; omega) (by omega)
  rw [hz1] at h
  exact h
end Go.Proofs.Ytecplbgdalchdaa.Q
/- Proved here: the contract of terms.Twin. Conditions: those that each theorem names. -/
namespace Go.Proofs.Ytecplbgdalchdaa.Q
open Go.RowKit Go.Shelf Go.Proofs.YtecplbgdalchdaaW.PrintWords Go.Proofs.YtecplbgdalchdaaW.PrintMore
set_option linter.unusedVariables false
set_option linter.unusedSimpArgs false
attribute [local go_sem] Oper.semAt_some

theorem set7 (cur : Array Value) (b : Nat) (v0 v1 v2 v3 v4 v5 v6 : Value) (h : b + 6 < cur.size) : (((((((((cur).setIfInBounds (b) v0).setIfInBounds (b + 1) v1).setIfInBounds (b + 2) v2).setIfInBounds (b + 3) v3).setIfInBounds (b + 4) v4).setIfInBounds (b + 5) v5).setIfInBounds (b + 6) v6).size = cur.size ∧ ((((((((cur).setIfInBounds (b) v0).setIfInBounds (b + 1) v1).setIfInBounds (b + 2) v2).setIfInBounds (b + 3) v3).setIfInBounds (b + 4) v4).setIfInBounds (b + 5) v5).setIfInBounds (b + 6) v6)[b]? = some v0 ∧ ((((((((cur).setIfInBounds (b) v0).setIfInBounds (b + 1) v1).setIfInBounds (b + 2) v2).setIfInBounds (b + 3) v3).setIfInBounds (b + 4) v4).setIfInBounds (b + 5) v5).setIfInBounds (b + 6) v6)[b + 1]? = some v1 ∧ ((((((((cur).setIfInBounds (b) v0).setIfInBounds (b + 1) v1).setIfInBounds (b + 2) v2).setIfInBounds (b + 3) v3).setIfInBounds (b + 4) v4).setIfInBounds (b + 5) v5).setIfInBounds (b + 6) v6)[b + 2]? = some v2 ∧ ((((((((cur).setIfInBounds (b) v0).setIfInBounds (b + 1) v1).setIfInBounds (b + 2) v2).setIfInBounds (b + 3) v3).setIfInBounds (b + 4) v4).setIfInBounds (b + 5) v5).setIfInBounds (b + 6) v6)[b + 3]? = some v3 ∧ ((((((((cur).setIfInBounds (b) v0).setIfInBounds (b + 1) v1).setIfInBounds (b + 2) v2).setIfInBounds (b + 3) v3).setIfInBounds (b + 4) v4).setIfInBounds (b + 5) v5).setIfInBounds (b + 6) v6)[b + 4]? = some v4 ∧ ((((((((cur).setIfInBounds (b) v0).setIfInBounds (b + 1) v1).setIfInBounds (b + 2) v2).setIfInBounds (b + 3) v3).setIfInBounds (b + 4) v4).setIfInBounds (b + 5) v5).setIfInBounds (b + 6) v6)[b + 5]? = some v5 ∧ ((((((((cur).setIfInBounds (b) v0).setIfInBounds (b + 1) v1).setIfInBounds (b + 2) v2).setIfInBounds (b + 3) v3).setIfInBounds (b + 4) v4).setIfInBounds (b + 5) v5).setIfInBounds (b + 6) v6)[b + 6]? = some v6) ∧ ∀ i, (i < b ∨ b + 6 < i) → ((((((((cur).setIfInBounds (b) v0).setIfInBounds (b + 1) v1).setIfInBounds (b + 2) v2).setIfInBounds (b + 3) v3).setIfInBounds (b + 4) v4).setIfInBounds (b + 5) v5).setIfInBounds (b + 6) v6)[i]? = cur[i]? := by
  refine ⟨⟨by simp only [Array.size_setIfInBounds], ?_, ?_, ?_, ?_, ?_, ?_, ?_⟩, fun i hi => ?_⟩
  · rw [Array.getElem?_setIfInBounds_ne (by omega), Array.getElem?_setIfInBounds_ne (by omega), Array.getElem?_setIfInBounds_ne (by omega), Array.getElem?_setIfInBounds_ne (by omega), Array.getElem?_setIfInBounds_ne (by omega), Array.getElem?_setIfInBounds_ne (by omega), Array.getElem?_setIfInBounds_self_of_lt (by omega)]
  · rw [Array.getElem?_setIfInBounds_ne (by omega), Array.getElem?_setIfInBounds_ne (by omega), Array.getElem?_setIfInBounds_ne (by omega), Array.getElem?_setIfInBounds_ne (by omega), Array.getElem?_setIfInBounds_ne (by omega), Array.getElem?_setIfInBounds_self_of_lt (by simp only [Array.size_setIfInBounds]; omega)]
  · rw [Array.getElem?_setIfInBounds_ne (by omega), Array.getElem?_setIfInBounds_ne (by omega), Array.getElem?_setIfInBounds_ne (by omega), Array.getElem?_setIfInBounds_ne (by omega), Array.getElem?_setIfInBounds_self_of_lt (by simp only [Array.size_setIfInBounds]; omega)]
  · rw [Array.getElem?_setIfInBounds_ne (by omega), Array.getElem?_setIfInBounds_ne (by omega), Array.getElem?_setIfInBounds_ne (by omega), Array.getElem?_setIfInBounds_self_of_lt (by simp only [Array.size_setIfInBounds]; omega)]
  · rw [Array.getElem?_setIfInBounds_ne (by omega), Array.getElem?_setIfInBounds_ne (by omega), Array.getElem?_setIfInBounds_self_of_lt (by simp only [Array.size_setIfInBounds]; omega)]
  · rw [Array.getElem?_setIfInBounds_ne (by omega), Array.getElem?_setIfInBounds_self_of_lt (by simp only [Array.size_setIfInBounds]; omega)]
  · rw [Array.getElem?_setIfInBounds_self_of_lt (by simp only [Array.size_setIfInBounds]; omega)]
  · rw [Array.getElem?_setIfInBounds_ne (by omega), Array.getElem?_setIfInBounds_ne (by omega), Array.getElem?_setIfInBounds_ne (by omega), Array.getElem?_setIfInBounds_ne (by omega), Array.getElem?_setIfInBounds_ne (by omega), Array.getElem?_setIfInBounds_ne (by omega), Array.getElem?_setIfInBounds_ne (by omega)]
def S7 (W : World) (g b : Nat) (v0 v1 v2 v3 v4 v5 v6 : Value) : World := (((((((W).setCell ⟨g, b, none⟩ (v0)).setCell ⟨g, b + 1, none⟩ (v1)).setCell ⟨g, b + 2, none⟩ (v2)).setCell ⟨g, b + 3, none⟩ (v3)).setCell ⟨g, b + 4, none⟩ (v4)).setCell ⟨g, b + 5, none⟩ (v5)).setCell ⟨g, b + 6, none⟩ (v6)
theorem S7.blk {W : World} {g b : Nat} {cur : Array Value} (v0 v1 v2 v3 v4 v5 v6 : Value) (h : W.heap[g]? = some (.cells cur 27 (0, 0))) : (S7 W g b v0 v1 v2 v3 v4 v5 v6).heap[g]? = some (.cells ((((((((cur).setIfInBounds (b) v0).setIfInBounds (b + 1) v1).setIfInBounds (b + 2) v2).setIfInBounds (b + 3) v3).setIfInBounds (b + 4) v4).setIfInBounds (b + 5) v5).setIfInBounds (b + 6) v6) 27 (0, 0)) := blk_put (blk_put (blk_put (blk_put (blk_put (blk_put (blk_put h (b) v0 rfl) (b + 1) v1 rfl) (b + 2) v2 rfl) (b + 3) v3 rfl) (b + 4) v4 rfl) (b + 5) v5 rfl) (b + 6) v6 rfl
theorem S7.far {W : World} {g b k : Nat} (v0 v1 v2 v3 v4 v5 v6 : Value) (h : k ≠ g) : (S7 W g b v0 v1 v2 v3 v4 v5 v6).heap[k]? = W.heap[k]? := by
  unfold S7
  rw [Below.heap_setCell _ _ _ k h, Below.heap_setCell _ _ _ k h, Below.heap_setCell _ _ _ k h, Below.heap_setCell _ _ _ k h, Below.heap_setCell _ _ _ k h, Below.heap_setCell _ _ _ k h, Below.heap_setCell _ _ _ k h]
theorem S7.below {w W : World} {g b : Nat} (v0 v1 v2 v3 v4 v5 v6 : Value) (h : Below w.heap.size w W) (hg : w.heap.size ≤ g) : Below w.heap.size w (S7 W g b v0 v1 v2 v3 v4 v5 v6) := (((((((h).setCell hg _).setCell hg _).setCell hg _).setCell hg _).setCell hg _).setCell hg _).setCell hg _
/-- What the loop of Twin has built. -/
structure TwAtM (w : World) (t : S27) (At : Option Addr) (ct gs kk : Nat) (W : World) : Prop where
  b1 : W.heap[w.heap.size]? = some (.cells #[.int .u8 t.f0, .string t.f1, .bool t.f2.f0, .string t.f2.f1, .slice At t.f2.f2.length ct, .int .i64 t.f3, .slice (some ⟨gs, 0, none⟩) t.f4.length t.f4.length] 27 (0, 0))
  b2 : W.heap[w.heap.size + 1]? = some (.cells #[.int .u8 0, .string ⟨#[]⟩, .bool false, .string ⟨#[]⟩, .slice none 0 0, .int .i64 0, .slice none 0 0] 27 (0, 0))
  bt : WT W (fun k => w.heap.size + 2 ≤ k ∧ k < gs) (.slice At t.f2.f2.length ct) t.f2.f2
  b3 : ∃ (cur : Array Value) (ts ss : Nat → Value), W.heap[gs]? = some (.cells cur 27 (0, 0)) ∧ cur.size = t.f4.length * 7 ∧
    ∀ j, j < kk → (cur[j * 7]? = some (.int .u8 (rd_T27 t.f4 (j : Int)).f0) ∧ cur[j * 7 + 1]? = some (.string (rd_T27 t.f4 (j : Int)).f1) ∧ cur[j * 7 + 2]? = some (.bool (rd_T27 t.f4 (j : Int)).f2.f0) ∧ cur[j * 7 + 3]? = some (.string (rd_T27 t.f4 (j : Int)).f2.f1) ∧ cur[j * 7 + 4]? = some (ts j) ∧ cur[j * 7 + 5]? = some (.int .i64 (rd_T27 t.f4 (j : Int)).f3) ∧ cur[j * 7 + 6]? = some (ss j)) ∧ WT W (fun k => gs < k) (ts j) (rd_T27 t.f4 (j : Int)).f2.f2 ∧ WTM W (fun k => gs < k) (ss j) (rd_T27 t.f4 (j : Int)).f4
  hb : Below w.heap.size w W
  hg : w.heap.size + 2 ≤ gs
theorem TwAtM.next {w wr w1 : World} {t x : S27} {At : Option Addr} {ct gs kk B : Nat} {vt vs : Value} (h : TwAtM w t At ct gs kk wr) (hX : rd_T27 t.f4 (kk : Int) = x) (hkk : kk < t.f4.length) (hB : gs < B) (hT : WT w1 (fun k => B ≤ k) vt x.f2.f2) (hM : WTM w1 (fun k => B ≤ k) vs x.f4) (h1 : Below wr.heap.size wr w1) :
    TwAtM w t At ct gs (kk + 1) (S7 w1 gs (kk * 7) (.int .u8 x.f0) (.string x.f1) (.bool x.f2.f0) (.string x.f2.f1) vt (.int .i64 x.f3) vs) := by
  obtain ⟨b1, b2, bt, ⟨cur, ts, ss, b3, hz, hel⟩, hb, hg⟩ := h
  have W3 := blk_below b3 h1
  have hlt : kk * 7 + 6 < cur.size := by
    have : (kk + 1) * 7 ≤ t.f4.length * 7 := Nat.mul_le_mul_right _ hkk
    omega
  obtain ⟨⟨hs, c0, c1, c2, c3, c4, c5, c6⟩, hother⟩ := set7 cur (kk * 7) (.int .u8 x.f0) (.string x.f1) (.bool x.f2.f0) (.string x.f2.f1) vt (.int .i64 x.f3) vs hlt
  have fT : ∀ {ok : Nat → Prop} {v : Value} {l : List S24}, WT w1 ok v l → (∀ k, ok k → k ≠ gs) → WT (S7 w1 gs (kk * 7) (.int .u8 x.f0) (.string x.f1) (.bool x.f2.f0) (.string x.f2.f1) vt (.int .i64 x.f3) vs) ok v l := fun h ho => h.step (fun k hk _ => S7.far _ _ _ _ _ _ _ (ho k hk))
  have fM : ∀ {ok : Nat → Prop} {v : Value} {l : List S27}, WTM w1 ok v l → (∀ k, ok k → k ≠ gs) → WTM (S7 w1 gs (kk * 7) (.int .u8 x.f0) (.string x.f1) (.bool x.f2.f0) (.string x.f2.f1) vt (.int .i64 x.f3) vs) ok v l := fun h ho => h.step (fun k hk _ => S7.far _ _ _ _ _ _ _ (ho k hk))
  refine ⟨(S7.far _ _ _ _ _ _ _ (by omega)).trans (blk_below b1 h1), (S7.far _ _ _ _ _ _ _ (by omega)).trans (blk_below b2 h1), fT (bt.later h1) (fun k hk => by omega), ⟨_, fun j => if j = kk then vt else ts j, fun j => if j = kk then vs else ss j, S7.blk _ _ _ _ _ _ _ W3, hs.trans hz, fun j hj => ?_⟩, S7.below _ _ _ _ _ _ _ (below_step hb h1) (by omega), hg⟩
  by_cases hjk : j = kk
  · subst hjk
    simp only [if_true]
    rw [hX]
    exact ⟨⟨c0, c1, c2, c3, c4, c5, c6⟩, fT (hT.mono (fun k hk => by omega)) (fun k hk => by omega), fM (hM.mono (fun k hk => by omega)) (fun k hk => by omega)⟩
  · simp only [if_neg hjk]
    obtain ⟨⟨q0, q1, q2, q3, q4, q5, q6⟩, q7, q8⟩ := hel j (by omega)
    have ho : ∀ i, i < 7 → (j * 7 + i < kk * 7 ∨ kk * 7 + 6 < j * 7 + i) := fun i hi => by
      have : (j + 1) * 7 ≤ kk * 7 := Nat.mul_le_mul_right _ (by omega)
      omega
    exact ⟨⟨(hother _ (ho 0 (by omega))).trans q0, (hother _ (ho 1 (by omega))).trans q1, (hother _ (ho 2 (by omega))).trans q2, (hother _ (ho 3 (by omega))).trans q3, (hother _ (ho 4 (by omega))).trans q4, (hother _ (ho 5 (by omega))).trans q5, (hother _ (ho 6 (by omega))).trans q6⟩, fT (q7.later h1) (fun k hk => by omega), fM (q8.later h1) (fun k hk => by omega)⟩
end Go.Proofs.Ytecplbgdalchdaa.Q
/- Proved here: terms.plain, named, and what terms.formed answers on variables and constants. Conditions: those that each theorem names. -/
namespace Go.Proofs.Ytecplbgdalchdaa.Q
open Go.RowKit Go.Shelf Go.Proofs.YtecplbgdalchdaaW.PrintWords Go.Proofs.YtecplbgdalchdaaW.PrintMore
set_option linter.unusedVariables false
set_option linter.unusedSimpArgs false
attribute [local go_sem] Oper.semAt_some

theorem list_nil (n : ByteArray) : (n.toList = ([] : List UInt8)) = (n.size = 0) := propext (toList_nil n)
theorem plain_ttf (t : S27) : terms_plain.f t.f0 t.f1 t.f2.f0 t.f2.f1 t.f2.f2 t.f3 t.f4 true true false = some (t.f3 == 0) := by
  simp [terms_plain.f]
theorem plain_fft (t : S27) : terms_plain.f t.f0 t.f1 t.f2.f0 t.f2.f1 t.f2.f2 t.f3 t.f4 false false true = some (t.f1.size == 0 && isZ t.f2) := by
  simp only [terms_plain.f, isZ, list_nil]
  by_cases h1 : t.f1.size = 0 <;> by_cases h2 : t.f2.f0 = true <;> by_cases h3 : t.f2.f1.size = 0 <;> by_cases h4 : t.f2.f2.length = 0 <;> simp [h1, h2, h3, h4]
theorem plain_fff (t : S27) : terms_plain.f t.f0 t.f1 t.f2.f0 t.f2.f1 t.f2.f2 t.f3 t.f4 false false false = some ((t.f1.size == 0 && isZ t.f2) && t.f3 == 0) := by
  simp only [terms_plain.f, isZ, list_nil]
  by_cases h1 : t.f1.size = 0 <;> by_cases h2 : t.f2.f0 = true <;> by_cases h3 : t.f2.f1.size = 0 <;> by_cases h4 : t.f2.f2.length = 0 <;> simp [h1, h2, h3, h4]
theorem fitl (v : Bool) (n : ByteArray) (h : okS n) : fit ⟨v, n, []⟩ := ⟨by simp [szT, szL], by simp [allT, allL, h]⟩
theorem named_ev (n : ByteArray) (h : okS n) : Ev (fun k => terms_named.f k n) (nmV n) := by
  have hc := check_ev ⟨false, n, []⟩ (fitl false n h)
  simp only [terms_named.f]
  refine Ev.bind hc ((Ev.pure _).val ?_)
  unfold nmV
  cases chkB ⟨false, n, []⟩ <;> rfl
theorem named_calls (n : ByteArray) (h : okS n) (w : World) : Calls Try.prog 178 #[.string n] w fun e w' => e = .returned (.bool (nmV n)) ∧ Below w.heap.size w w' := by
  obtain ⟨k, hk⟩ := (named_ev n h).at
  exact terms_named.calls k n _ w hk
theorem tcheck_calls (t : S24) (A : Option Addr) (c : Nat) (w : World) (hf : fit t) (hA : k24.C w A t.f2.length t.f2) (hc : t.f2.length ≤ c) : Calls Try.prog 113 #[.agg #[.bool t.f0, .string t.f1, .slice A t.f2.length c]] w fun e w' => e = .returned (.int .i64 (if chkB t = true then 0 else 10)) ∧ Below w.heap.size w w' := by
  obtain ⟨k, hk⟩ := (check_ev t hf).at
  exact types_Check.calls k t.f0 t.f1 A c t.f2 _ w hA hc hk
/-! ### formed -/
def FormPost (w : World) (ok : Nat → Prop) (o : Option S24) (e : Ending) (w' : World) : Prop := ∃ r u, e = .returned (.tuple #[r, .bool o.isSome]) ∧ TrF w' (fun k => ok k ∨ w.heap.size ≤ k) r u ∧ (∀ v, o = some v → u = v) ∧ Below w.heap.size w w'
/-- The term's box, the result's box. -/
abbrev FmS (w : World) (t : S27) (A : Option Addr) (c : Nat) (B : Option Addr) (d : Nat) (W : World) : Prop :=
  W.cell? ⟨w.heap.size, 0, none⟩ = some (.int .u8 t.f0) ∧ W.cell? ⟨w.heap.size, 1, none⟩ = some (.string t.f1) ∧ W.cell? ⟨w.heap.size, 2, none⟩ = some (.bool t.f2.f0) ∧ W.cell? ⟨w.heap.size, 3, none⟩ = some (.string t.f2.f1) ∧ W.cell? ⟨w.heap.size, 4, none⟩ = some (.slice A t.f2.f2.length c) ∧ W.cell? ⟨w.heap.size, 5, none⟩ = some (.int .i64 t.f3) ∧ W.cell? ⟨w.heap.size, 6, none⟩ = some (.slice B t.f4.length d) ∧ (∃ a b c, W.heap[w.heap.size + 1]? = some (.cells #[a, b, c] 24 (0, 0))) ∧ Below w.heap.size w W
section
variable {w W W' : World} {t : S27} {A B : Option Addr} {c d : Nat}
theorem FmS.step (h : FmS w t A c B d W) (hb : Below W.heap.size W W') : FmS w t A c B d W' := by
  obtain ⟨h0, h1, h2, h3, h4, h5, h6, ⟨a, b, e, h7⟩, h8⟩ := h
  exact ⟨pw_cell_below hb h0, pw_cell_below hb h1, pw_cell_below hb h2, pw_cell_below hb h3, pw_cell_below hb h4, pw_cell_below hb h5, pw_cell_below hb h6, ⟨a, b, e, blk_below h7 hb⟩, below_step h8 hb⟩
theorem FmS.below (h : FmS w t A c B d W) : Below w.heap.size w W := h.2.2.2.2.2.2.2.2
theorem FmS.start (w : World) (t : S27) (A : Option Addr) (c : Nat) (B : Option Addr) (d : Nat) : FmS w t A c B d ((w.alloc (.cells #[.int .u8 t.f0, .string t.f1, .bool t.f2.f0, .string t.f2.f1, .slice A t.f2.f2.length c, .int .i64 t.f3, .slice B t.f4.length d] 27)).alloc (.cells #[.bool false, .string ⟨#[]⟩, .slice none 0 0] 24)) := by
  have h := two_new w (.cells #[.int .u8 t.f0, .string t.f1, .bool t.f2.f0, .string t.f2.f1, .slice A t.f2.f2.length c, .int .i64 t.f3, .slice B t.f4.length d] 27) (.cells #[.bool false, .string ⟨#[]⟩, .slice none 0 0] 24)
  obtain ⟨x0, x1, x2, x3, x4, x5, x6⟩ := box7 h.2.1
  exact ⟨x0, x1, x2, x3, x4, x5, x6, ⟨_, _, _, h.2.2⟩, h.1⟩
theorem FmS.put {a b e : Value} (h : FmS w t A c B d W) (x y z : Value) : FmS w t A c B d (((W.setCell ⟨w.heap.size + 1, 0, none⟩ x).setCell ⟨w.heap.size + 1, 1, none⟩ y).setCell ⟨w.heap.size + 1, 2, none⟩ z) := by
  obtain ⟨h0, h1, h2, h3, h4, h5, h6, ⟨a, b, e, h7⟩, h8⟩ := h
  have n : ∀ i j, (⟨w.heap.size, i, none⟩ : Addr).block ≠ (⟨w.heap.size + 1, j, none⟩ : Addr).block := fun _ _ => by show w.heap.size ≠ w.heap.size + 1; omega
  have f : ∀ {i : Nat} {u : Value}, W.cell? ⟨w.heap.size, i, none⟩ = some u → (((W.setCell ⟨w.heap.size + 1, 0, none⟩ x).setCell ⟨w.heap.size + 1, 1, none⟩ y).setCell ⟨w.heap.size + 1, 2, none⟩ z).cell? ⟨w.heap.size, i, none⟩ = some u := fun hc => cell_away (cell_away (cell_away hc (n _ _)) (n _ _)) (n _ _)
  exact ⟨f h0, f h1, f h2, f h3, f h4, f h5, f h6, ⟨_, _, _, set3 h7⟩, ((h8.setCell (by simp) _).setCell (by simp) _).setCell (by simp) _⟩
/-- The result is the type that was stored. -/
theorem FmS.done {ok : Nat → Prop} (h : FmS w t A c B d W) (hX : RdF w ok t A c B d) : TrF (((W.setCell ⟨w.heap.size + 1, 0, none⟩ (.bool t.f2.f0)).setCell ⟨w.heap.size + 1, 1, none⟩ (.string t.f2.f1)).setCell ⟨w.heap.size + 1, 2, none⟩ (.slice A t.f2.f2.length c)) (fun k => ok k ∨ w.heap.size ≤ k) (.agg #[.bool t.f2.f0, .string t.f2.f1, .slice A t.f2.f2.length c]) t.f2 :=
  ⟨A, c, rfl, hX.1.2, Kd.F_mono (Kd.F_below hX.1.1 (((h.below.setCell (by simp) _).setCell (by simp) _).setCell (by simp) _)) (fun k hk => .inl hk)⟩
end
/-- On variables and constants. -/
theorem formM_leaf (t : S27) (l : List S24) (hk : t.f0 = 1 ∨ t.f0 = 2) : formM t l = if (nmV t.f1 && chkB t.f2) && (t.f3 == 0 && t.f4.length == 0) then some t.f2 else none := by
  rw [formM_eq, formML_map]
  unfold formH
  rw [if_pos hk, List.length_map]
set_option maxHeartbeats 8000000 in
set_option maxRecDepth 100000 in
theorem formed_leaf (t : S27) (l : List S24) (hk : t.f0 = 1 ∨ t.f0 = 2) (A : Option Addr) (c : Nat) (B : Option Addr) (d : Nat) (E : Option Addr) (n ce : Nat) (w : World) (ok : Nat → Prop) (hX : RdF w ok t A c B d) (hn : okS t.f1) (hf : fit t.f2) :
    Calls Try.prog 168 #[.agg #[.int .u8 t.f0, .string t.f1, .bool t.f2.f0, .string t.f2.f1, .slice A t.f2.f2.length c, .int .i64 t.f3, .slice B t.f4.length d], .slice E n ce] w (FormPost w ok (formM t l)) := by
  have hS0 := FmS.start w t A c B d
  have hpl := fun W (hw : FmS w t A c B d W) => (terms_plain.calls t.f0 t.f1 t.f2.f0 t.f2.f1 A c t.f2.f2 t.f3 B d t.f4 true true false _ W (hX.at hw.below).1.1 hX.1.2 (hX.at hw.below).2.1 hX.2.2 (plain_ttf t)).mono (fun _ _ h => And.intro h.1 (hw.step h.2))
  have hnm := fun W (hw : FmS w t A c B d W) => (named_calls t.f1 hn W).mono (fun _ _ h => And.intro h.1 (hw.step h.2))
  have hck := fun W (hw : FmS w t A c B d W) => (tcheck_calls t.f2 A c W hf (hX.at hw.below).1.1 hX.1.2).mono (fun _ _ h => And.intro h.1 (hw.step h.2))
  have hF := formM_leaf t l hk
  have hk' : (t.f0 == 1) = true ∨ ((t.f0 == 1) = false ∧ (t.f0 == 2) = true) := by
    rcases hk with h | h
    · exact .inl (by rw [h]; rfl)
    · exact .inr ⟨by rw [h]; rfl, by rw [h]; rfl⟩
  obtain ⟨x0, x1, x2, x3, x4, x5, x6, _, _⟩ := id hS0
  clear hk
  cases h3 : (t.f3 == 0) with
  | false =>
    rw [h3] at hF hpl
    have HF := Aside0.mk (show formM t l = none by rw [hF]; simp)
    clear hF hnm hck
    rcases hk' with h1 | ⟨h1, h2⟩
    all_goals
      go_enter Try.func168, Try.ntmps168
      go_wp2_with fail
      have hK0 := hS0.step (below_drew1 (Below.refl _ _))
      clear hS0
      refine wp_region_held_drew (S := fun W => FmS w t A c B d W) (by kernel_rfl) (by with_reducible exact hK0) (fun hHeld => ?_)
      refine wpAnyH_take (i := 0) (oi := { dst := some 17, op := Op.fieldAddr 27 (Operand.tmp 2) 2, type := 0, pos := "terms.go:34", after := #[], guard := none }) (v := ?_) rfl (by kernel_rfl) (by kernel_rfl) (by kernel_rfl) (fun _ _ _ h => h) (Or.inl ⟨by rfl, ?_⟩) (by assumption) ?_
      rotate_left
      · intro w' hSw; (try dsimp only at hSw); go_simp; try with_reducible rfl
      try simp only [Act.put, List.setIfInBounds_toArray, List.set_cons_zero, List.set_cons_succ]
      refine wpAnyH_take (i := 1) (oi := { dst := some 18, op := Op.load 24 (Operand.tmp 17), type := 24, pos := "terms.go:34", after := #[{ on := 0, ground := Ground.data }], guard := none }) (v := ?_) rfl (by kernel_rfl) (by kernel_rfl) (by kernel_rfl) (fun _ _ _ h => h) (Or.inl ⟨by rfl, ?_⟩) (by assumption) ?_
      rotate_left
      · intro w' hSw; (try dsimp only at hSw); go_simp; try with_reducible rfl
      try simp only [Act.put, List.setIfInBounds_toArray, List.set_cons_zero, List.set_cons_succ]
      refine wpAnyH_take (i := 2) (oi := { dst := some 19, op := Op.load 27 (Operand.tmp 2), type := 27, pos := "terms.go:34", after := #[], guard := none }) (v := ?_) rfl (by kernel_rfl) (by kernel_rfl) (by kernel_rfl) (fun _ _ _ h => h) (Or.inl ⟨by rfl, ?_⟩) (by assumption) ?_
      rotate_left
      · intro w' hSw; (try dsimp only at hSw); go_simp; try with_reducible rfl
      try simp only [Act.put, List.setIfInBounds_toArray, List.set_cons_zero, List.set_cons_succ]
      refine wpAnyH_ready (rs := [3]) (by kernel_rfl) (by simp) ?_
      refine AllReadyH.cons (o := { dst := some 20, op := Op.call { callee := Callee.value (Operand.func 209), args := #[Operand.tmp 19, Operand.const (Value.bool true), Operand.const (Value.bool true), Operand.const (Value.bool false)], argTypes := #[27, 4, 4, 4] }, type := 4, pos := "terms.go:34", after := #[{ on := 2, ground := Ground.data }], guard := none }) rfl (fun K hK => ?_) AllReadyH.nil
      go_simp
      go_wp2_with (go_at_call 209; (with_reducible refine (hpl _ (by with_reducible assumption)).mono ?_); rintro e w3 ⟨rfl, hN⟩; obtain ⟨x0, x1, x2, x3, x4, x5, x6, ⟨ra, rb, rc, BR⟩, hb⟩ := id hN; obtain ⟨s0, s1, s2, s3, s4, s5, s6⟩ := box3s BR)
      refine hK.out _ _ (by with_reducible assumption) (fun hHeld => ?_)
      clear hK K
      try simp only [Act.put, List.setIfInBounds_toArray, List.set_cons_zero, List.set_cons_succ]
      refine wpAnyH_take (i := 4) (oi := { dst := some 21, op := Op.move (Operand.tmp 20), type := 4, pos := "terms.go:34", after := #[{ on := 3, ground := Ground.data }, { on := 3, ground := Ground.chain }], guard := none }) (v := ?_) rfl (by kernel_rfl) (by kernel_rfl) (by kernel_rfl) (fun _ _ _ h => h) (Or.inl ⟨by rfl, ?_⟩) (by assumption) ?_
      rotate_left
      · intro w' hSw; (try dsimp only at hSw); go_simp; try with_reducible rfl
      try simp only [Act.put, List.setIfInBounds_toArray, List.set_cons_zero, List.set_cons_succ]
      refine wpAnyH_take (i := 5) (oi := { dst := some 22, op := Op.fieldAddr 27 (Operand.tmp 2) 1, type := 0, pos := "terms.go:34", after := #[{ on := 4, ground := Ground.guard }], guard := some (4, true) }) (v := undef) rfl (by kernel_rfl) (by kernel_rfl) (by kernel_rfl) (fun _ _ _ h => h) (Or.inr ⟨by rfl, rfl⟩) (by assumption) ?_
      try simp only [Act.put, List.setIfInBounds_toArray, List.set_cons_zero, List.set_cons_succ]
      refine wpAnyH_take (i := 6) (oi := { dst := some 23, op := Op.load 9 (Operand.tmp 22), type := 9, pos := "terms.go:34", after := #[{ on := 5, ground := Ground.data }, { on := 4, ground := Ground.guard }], guard := some (4, true) }) (v := undef) rfl (by kernel_rfl) (by kernel_rfl) (by kernel_rfl) (fun _ _ _ h => h) (Or.inr ⟨by rfl, rfl⟩) (by assumption) ?_
      try simp only [Act.put, List.setIfInBounds_toArray, List.set_cons_zero, List.set_cons_succ]
      refine wpAnyH_take (i := 7) (oi := { dst := some 24, op := Op.call { callee := Callee.value (Operand.func 178), args := #[Operand.tmp 23], argTypes := #[9] }, type := 4, pos := "terms.go:34", after := #[{ on := 6, ground := Ground.data }, { on := 4, ground := Ground.chain }, { on := 4, ground := Ground.guard }], guard := some (4, true) }) (v := undef) rfl (by kernel_rfl) (by kernel_rfl) (by kernel_rfl) (fun _ _ _ h => h) (Or.inr ⟨by rfl, rfl⟩) (by assumption) ?_
      try simp only [Act.put, List.setIfInBounds_toArray, List.set_cons_zero, List.set_cons_succ]
      refine wpAnyH_take (i := 8) (oi := { dst := some 25, op := Op.pick (Operand.tmp 21) (Operand.tmp 24) (Operand.const (Value.bool false)), type := 4, pos := "terms.go:34", after := #[{ on := 4, ground := Ground.data }, { on := 7, ground := Ground.data }], guard := none }) (v := ?_) rfl (by kernel_rfl) (by kernel_rfl) (by kernel_rfl) (fun _ _ _ h => h) (Or.inl ⟨by rfl, ?_⟩) (by assumption) ?_
      rotate_left
      · intro w' hSw; (try dsimp only at hSw); go_simp; try with_reducible rfl
      try simp only [Act.put, List.setIfInBounds_toArray, List.set_cons_zero, List.set_cons_succ]
      refine wpAnyH_take (i := 9) (oi := { dst := some 26, op := Op.move (Operand.tmp 25), type := 4, pos := "terms.go:34", after := #[{ on := 8, ground := Ground.data }, { on := 7, ground := Ground.chain }], guard := none }) (v := ?_) rfl (by kernel_rfl) (by kernel_rfl) (by kernel_rfl) (fun _ _ _ h => h) (Or.inl ⟨by rfl, ?_⟩) (by assumption) ?_
      rotate_left
      · intro w' hSw; (try dsimp only at hSw); go_simp; try with_reducible rfl
      try simp only [Act.put, List.setIfInBounds_toArray, List.set_cons_zero, List.set_cons_succ]
      refine wpAnyH_take (i := 10) (oi := { dst := some 27, op := Op.fieldAddr 27 (Operand.tmp 2) 4, type := 0, pos := "terms.go:34", after := #[{ on := 9, ground := Ground.guard }], guard := some (9, true) }) (v := undef) rfl (by kernel_rfl) (by kernel_rfl) (by kernel_rfl) (fun _ _ _ h => h) (Or.inr ⟨by rfl, rfl⟩) (by assumption) ?_
      try simp only [Act.put, List.setIfInBounds_toArray, List.set_cons_zero, List.set_cons_succ]
      refine wpAnyH_take (i := 11) (oi := { dst := some 28, op := Op.load 25 (Operand.tmp 27), type := 25, pos := "terms.go:34", after := #[{ on := 10, ground := Ground.data }, { on := 9, ground := Ground.guard }], guard := some (9, true) }) (v := undef) rfl (by kernel_rfl) (by kernel_rfl) (by kernel_rfl) (fun _ _ _ h => h) (Or.inr ⟨by rfl, rfl⟩) (by assumption) ?_
      try simp only [Act.put, List.setIfInBounds_toArray, List.set_cons_zero, List.set_cons_succ]
      refine wpAnyH_take (i := 12) (oi := { dst := some 29, op := Op.call { callee := Callee.builtin Builtin.len, args := #[Operand.tmp 28], argTypes := #[25] }, type := 3, pos := "terms.go:34", after := #[{ on := 11, ground := Ground.data }, { on := 9, ground := Ground.guard }], guard := some (9, true) }) (v := undef) rfl (by kernel_rfl) (by kernel_rfl) (by kernel_rfl) (fun _ _ _ h => h) (Or.inr ⟨by rfl, rfl⟩) (by assumption) ?_
      try simp only [Act.put, List.setIfInBounds_toArray, List.set_cons_zero, List.set_cons_succ]
      refine wpAnyH_take (i := 13) (oi := { dst := some 30, op := Op.binOp BinOp.eql 3 (Operand.tmp 29) (Operand.const (Value.int IntKind.i64 0)) 3, type := 4, pos := "terms.go:34", after := #[{ on := 12, ground := Ground.data }, { on := 9, ground := Ground.guard }], guard := some (9, true) }) (v := undef) rfl (by kernel_rfl) (by kernel_rfl) (by kernel_rfl) (fun _ _ _ h => h) (Or.inr ⟨by rfl, rfl⟩) (by assumption) ?_
      try simp only [Act.put, List.setIfInBounds_toArray, List.set_cons_zero, List.set_cons_succ]
      refine wpAnyH_take (i := 14) (oi := { dst := some 31, op := Op.pick (Operand.tmp 26) (Operand.tmp 30) (Operand.const (Value.bool false)), type := 4, pos := "terms.go:34", after := #[{ on := 9, ground := Ground.data }, { on := 13, ground := Ground.data }], guard := none }) (v := ?_) rfl (by kernel_rfl) (by kernel_rfl) (by kernel_rfl) (fun _ _ _ h => h) (Or.inl ⟨by rfl, ?_⟩) (by assumption) ?_
      rotate_left
      · intro w' hSw; (try dsimp only at hSw); go_simp; try with_reducible rfl
      try simp only [Act.put, List.setIfInBounds_toArray, List.set_cons_zero, List.set_cons_succ]
      refine wpAnyH_take (i := 15) (oi := { dst := some 32, op := Op.move (Operand.tmp 31), type := 4, pos := "terms.go:34", after := #[{ on := 14, ground := Ground.data }, { on := 9, ground := Ground.chain }], guard := none }) (v := ?_) rfl (by kernel_rfl) (by kernel_rfl) (by kernel_rfl) (fun _ _ _ h => h) (Or.inl ⟨by rfl, ?_⟩) (by assumption) ?_
      rotate_left
      · intro w' hSw; (try dsimp only at hSw); go_simp; try with_reducible rfl
      try simp only [Act.put, List.setIfInBounds_toArray, List.set_cons_zero, List.set_cons_succ]
      refine wpAnyH_take (i := 16) (oi := { dst := some 33, op := Op.fieldAddr 27 (Operand.tmp 2) 2, type := 0, pos := "terms.go:34", after := #[{ on := 15, ground := Ground.guard }], guard := some (15, true) }) (v := undef) rfl (by kernel_rfl) (by kernel_rfl) (by kernel_rfl) (fun _ _ _ h => h) (Or.inr ⟨by rfl, rfl⟩) (by assumption) ?_
      try simp only [Act.put, List.setIfInBounds_toArray, List.set_cons_zero, List.set_cons_succ]
      refine wpAnyH_take (i := 17) (oi := { dst := some 34, op := Op.load 24 (Operand.tmp 33), type := 24, pos := "terms.go:34", after := #[{ on := 16, ground := Ground.data }, { on := 15, ground := Ground.guard }], guard := some (15, true) }) (v := undef) rfl (by kernel_rfl) (by kernel_rfl) (by kernel_rfl) (fun _ _ _ h => h) (Or.inr ⟨by rfl, rfl⟩) (by assumption) ?_
      try simp only [Act.put, List.setIfInBounds_toArray, List.set_cons_zero, List.set_cons_succ]
      refine wpAnyH_take (i := 18) (oi := { dst := some 35, op := Op.call { callee := Callee.value (Operand.func 113), args := #[Operand.tmp 34], argTypes := #[24] }, type := 34, pos := "terms.go:34", after := #[{ on := 17, ground := Ground.data }, { on := 15, ground := Ground.chain }, { on := 15, ground := Ground.guard }], guard := some (15, true) }) (v := undef) rfl (by kernel_rfl) (by kernel_rfl) (by kernel_rfl) (fun _ _ _ h => h) (Or.inr ⟨by rfl, rfl⟩) (by assumption) ?_
      try simp only [Act.put, List.setIfInBounds_toArray, List.set_cons_zero, List.set_cons_succ]
      refine wpAnyH_take (i := 19) (oi := { dst := some 36, op := Op.binOp BinOp.eql 34 (Operand.tmp 35) (Operand.const (Value.int IntKind.i64 0)) 34, type := 4, pos := "terms.go:34", after := #[{ on := 18, ground := Ground.data }, { on := 15, ground := Ground.guard }, { on := 21, ground := Ground.gcOnly Departure.lateStores }], guard := some (15, true) }) (v := undef) rfl (by kernel_rfl) (by kernel_rfl) (by kernel_rfl) (fun _ _ _ h => h) (Or.inr ⟨by rfl, rfl⟩) (by assumption) ?_
      try simp only [Act.put, List.setIfInBounds_toArray, List.set_cons_zero, List.set_cons_succ]
      refine wpAnyH_take (i := 20) (oi := { dst := some 37, op := Op.pick (Operand.tmp 32) (Operand.tmp 36) (Operand.const (Value.bool false)), type := 4, pos := "terms.go:34", after := #[{ on := 15, ground := Ground.data }, { on := 19, ground := Ground.data }, { on := 21, ground := Ground.gcOnly Departure.lateStores }], guard := none }) (v := ?_) rfl (by kernel_rfl) (by kernel_rfl) (by kernel_rfl) (fun _ _ _ h => h) (Or.inl ⟨by rfl, ?_⟩) (by assumption) ?_
      rotate_left
      · intro w' hSw; (try dsimp only at hSw); go_simp; try with_reducible rfl
      try simp only [Act.put, List.setIfInBounds_toArray, List.set_cons_zero, List.set_cons_succ]
      refine wpAnyH_ready (rs := [21]) (by kernel_rfl) (by simp) ?_
      refine AllReadyH.cons (o := { dst := none, op := Op.store 24 (Operand.tmp 4) (Operand.tmp 18), type := 0, pos := "terms.go:34", after := #[{ on := 1, ground := Ground.data }, { on := 18, ground := Ground.chain }, { on := 0, ground := Ground.phase }, { on := 1, ground := Ground.phase }, { on := 2, ground := Ground.textOnly Departure.lateStores }, { on := 3, ground := Ground.textOnly Departure.lateStoresUnsure }, { on := 4, ground := Ground.textOnly Departure.lateStores }, { on := 5, ground := Ground.textOnly Departure.lateStores }, { on := 6, ground := Ground.textOnly Departure.lateStores }, { on := 7, ground := Ground.textOnly Departure.lateStoresUnsure }, { on := 8, ground := Ground.textOnly Departure.lateStores }, { on := 9, ground := Ground.textOnly Departure.lateStores }, { on := 10, ground := Ground.textOnly Departure.lateStores }, { on := 11, ground := Ground.textOnly Departure.lateStores }, { on := 12, ground := Ground.textOnly Departure.lateStoresUnsure }, { on := 13, ground := Ground.textOnly Departure.lateStores }, { on := 14, ground := Ground.textOnly Departure.lateStores }, { on := 15, ground := Ground.textOnly Departure.lateStores }, { on := 16, ground := Ground.textOnly Departure.lateStores }, { on := 17, ground := Ground.textOnly Departure.lateStores }, { on := 18, ground := Ground.textOnly Departure.lateStoresUnsure }, { on := 19, ground := Ground.textOnly Departure.lateStores }, { on := 20, ground := Ground.textOnly Departure.lateStores }], guard := none }) rfl (fun K hK => ?_) AllReadyH.nil
      go_simp
      refine hK.out _ _ (by with_reducible exact hN.put (a := ra) (b := rb) (e := rc) _ _ _) (fun hHeld => ?_)
      clear hK K
      try simp only [Act.put, List.setIfInBounds_toArray, List.set_cons_zero, List.set_cons_succ]
      refine wpAnyH_take (i := 22) (oi := { dst := some 5, op := Op.assign (Operand.tmp 37), type := 4, pos := "terms.go:34", after := #[{ on := 20, ground := Ground.data }, { on := 21, ground := Ground.chain }, { on := 0, ground := Ground.phase }, { on := 1, ground := Ground.phase }, { on := 2, ground := Ground.phase }, { on := 3, ground := Ground.phase }, { on := 4, ground := Ground.phase }, { on := 5, ground := Ground.phase }, { on := 6, ground := Ground.phase }, { on := 7, ground := Ground.phase }, { on := 8, ground := Ground.phase }, { on := 9, ground := Ground.phase }, { on := 10, ground := Ground.phase }, { on := 11, ground := Ground.phase }, { on := 12, ground := Ground.phase }, { on := 13, ground := Ground.phase }, { on := 14, ground := Ground.phase }, { on := 15, ground := Ground.phase }, { on := 16, ground := Ground.phase }, { on := 17, ground := Ground.phase }, { on := 18, ground := Ground.phase }, { on := 19, ground := Ground.phase }, { on := 20, ground := Ground.phase }, { on := 21, ground := Ground.phase }], guard := none }) (v := ?_) rfl (by kernel_rfl) (by kernel_rfl) (by kernel_rfl) (fun _ _ _ h => h) (Or.inl ⟨by rfl, ?_⟩) (by assumption) ?_
      rotate_left
      · intro w' hSw; (try dsimp only at hSw); go_simp; try with_reducible rfl
      try simp only [Act.put, List.setIfInBounds_toArray, List.set_cons_zero, List.set_cons_succ]
      refine wpAnyH_done (by kernel_rfl) ?_ _
      go_wp2_with fail
      refine bodyPost_ret (results_ct rfl _ _ (w.heap.size + 1) 24 #[.bool t.f2.f0, .string t.f2.f1, .slice A t.f2.f2.length c] (0, 0) _ rfl (set3 BR) Try.underlying24 rfl (by kernel_rfl)) rfl ?_
      exact ⟨_, t.f2, by rw [HF.out]; rfl, hN.done hX, (fun v hv => by rw [HF.out] at hv; cases hv), ((hb.setCell (by simp) _).setCell (by simp) _).setCell (by simp) _⟩
  | true =>
    rw [h3] at hF hpl
    cases hnv : nmV t.f1 with
    | false =>
      rw [hnv] at hF hnm
      have HF := Aside0.mk (show formM t l = none by rw [hF]; simp)
      clear hF hck
      rcases hk' with h1 | ⟨h1, h2⟩
      all_goals
        go_enter Try.func168, Try.ntmps168
        go_wp2_with fail
        have hK0 := hS0.step (below_drew1 (Below.refl _ _))
        clear hS0
        refine wp_region_held_drew (S := fun W => FmS w t A c B d W) (by kernel_rfl) (by with_reducible exact hK0) (fun hHeld => ?_)
        refine wpAnyH_take (i := 0) (oi := { dst := some 17, op := Op.fieldAddr 27 (Operand.tmp 2) 2, type := 0, pos := "terms.go:34", after := #[], guard := none }) (v := ?_) rfl (by kernel_rfl) (by kernel_rfl) (by kernel_rfl) (fun _ _ _ h => h) (Or.inl ⟨by rfl, ?_⟩) (by assumption) ?_
        rotate_left
        · intro w' hSw; (try dsimp only at hSw); go_simp; try with_reducible rfl
        try simp only [Act.put, List.setIfInBounds_toArray, List.set_cons_zero, List.set_cons_succ]
        refine wpAnyH_take (i := 1) (oi := { dst := some 18, op := Op.load 24 (Operand.tmp 17), type := 24, pos := "terms.go:34", after := #[{ on := 0, ground := Ground.data }], guard := none }) (v := ?_) rfl (by kernel_rfl) (by kernel_rfl) (by kernel_rfl) (fun _ _ _ h => h) (Or.inl ⟨by rfl, ?_⟩) (by assumption) ?_
        rotate_left
        · intro w' hSw; (try dsimp only at hSw); go_simp; try with_reducible rfl
        try simp only [Act.put, List.setIfInBounds_toArray, List.set_cons_zero, List.set_cons_succ]
        refine wpAnyH_take (i := 2) (oi := { dst := some 19, op := Op.load 27 (Operand.tmp 2), type := 27, pos := "terms.go:34", after := #[], guard := none }) (v := ?_) rfl (by kernel_rfl) (by kernel_rfl) (by kernel_rfl) (fun _ _ _ h => h) (Or.inl ⟨by rfl, ?_⟩) (by assumption) ?_
        rotate_left
        · intro w' hSw; (try dsimp only at hSw); go_simp; try with_reducible rfl
        try simp only [Act.put, List.setIfInBounds_toArray, List.set_cons_zero, List.set_cons_succ]
        refine wpAnyH_ready (rs := [3]) (by kernel_rfl) (by simp) ?_
        refine AllReadyH.cons (o := { dst := some 20, op := Op.call { callee := Callee.value (Operand.func 209), args := #[Operand.tmp 19, Operand.const (Value.bool true), Operand.const (Value.bool true), Operand.const (Value.bool false)], argTypes := #[27, 4, 4, 4] }, type := 4, pos := "terms.go:34", after := #[{ on := 2, ground := Ground.data }], guard := none }) rfl (fun K hK => ?_) AllReadyH.nil
        go_simp
        go_wp2_with (go_at_call 209; (with_reducible refine (hpl _ (by with_reducible assumption)).mono ?_); rintro e w3 ⟨rfl, hN⟩; obtain ⟨x0, x1, x2, x3, x4, x5, x6, ⟨ra, rb, rc, BR⟩, hb⟩ := id hN; obtain ⟨s0, s1, s2, s3, s4, s5, s6⟩ := box3s BR)
        refine hK.out _ _ (by with_reducible assumption) (fun hHeld => ?_)
        clear hK K
        try simp only [Act.put, List.setIfInBounds_toArray, List.set_cons_zero, List.set_cons_succ]
        refine wpAnyH_take (i := 4) (oi := { dst := some 21, op := Op.move (Operand.tmp 20), type := 4, pos := "terms.go:34", after := #[{ on := 3, ground := Ground.data }, { on := 3, ground := Ground.chain }], guard := none }) (v := ?_) rfl (by kernel_rfl) (by kernel_rfl) (by kernel_rfl) (fun _ _ _ h => h) (Or.inl ⟨by rfl, ?_⟩) (by assumption) ?_
        rotate_left
        · intro w' hSw; (try dsimp only at hSw); go_simp; try with_reducible rfl
        try simp only [Act.put, List.setIfInBounds_toArray, List.set_cons_zero, List.set_cons_succ]
        refine wpAnyH_take (i := 5) (oi := { dst := some 22, op := Op.fieldAddr 27 (Operand.tmp 2) 1, type := 0, pos := "terms.go:34", after := #[{ on := 4, ground := Ground.guard }], guard := some (4, true) }) (v := ?_) rfl (by kernel_rfl) (by kernel_rfl) (by kernel_rfl) (fun _ _ _ h => h) (Or.inl ⟨by rfl, ?_⟩) (by assumption) ?_
        rotate_left
        · intro w' hSw; (try dsimp only at hSw); go_simp; try with_reducible rfl
        try simp only [Act.put, List.setIfInBounds_toArray, List.set_cons_zero, List.set_cons_succ]
        refine wpAnyH_take (i := 6) (oi := { dst := some 23, op := Op.load 9 (Operand.tmp 22), type := 9, pos := "terms.go:34", after := #[{ on := 5, ground := Ground.data }, { on := 4, ground := Ground.guard }], guard := some (4, true) }) (v := ?_) rfl (by kernel_rfl) (by kernel_rfl) (by kernel_rfl) (fun _ _ _ h => h) (Or.inl ⟨by rfl, ?_⟩) (by assumption) ?_
        rotate_left
        · intro w' hSw; (try dsimp only at hSw); go_simp; try with_reducible rfl
        try simp only [Act.put, List.setIfInBounds_toArray, List.set_cons_zero, List.set_cons_succ]
        refine wpAnyH_ready (rs := [7]) (by kernel_rfl) (by simp) ?_
        refine AllReadyH.cons (o := { dst := some 24, op := Op.call { callee := Callee.value (Operand.func 178), args := #[Operand.tmp 23], argTypes := #[9] }, type := 4, pos := "terms.go:34", after := #[{ on := 6, ground := Ground.data }, { on := 4, ground := Ground.chain }, { on := 4, ground := Ground.guard }], guard := some (4, true) }) rfl (fun K hK => ?_) AllReadyH.nil
        go_simp
        go_wp2_with (go_at_call 178; (with_reducible refine (hnm _ (by with_reducible assumption)).mono ?_); rintro e w3 ⟨rfl, hN⟩; obtain ⟨x0, x1, x2, x3, x4, x5, x6, ⟨ra, rb, rc, BR⟩, hb⟩ := id hN; obtain ⟨s0, s1, s2, s3, s4, s5, s6⟩ := box3s BR)
        refine hK.out _ _ (by with_reducible assumption) (fun hHeld => ?_)
        clear hK K
        try simp only [Act.put, List.setIfInBounds_toArray, List.set_cons_zero, List.set_cons_succ]
        refine wpAnyH_take (i := 8) (oi := { dst := some 25, op := Op.pick (Operand.tmp 21) (Operand.tmp 24) (Operand.const (Value.bool false)), type := 4, pos := "terms.go:34", after := #[{ on := 4, ground := Ground.data }, { on := 7, ground := Ground.data }], guard := none }) (v := ?_) rfl (by kernel_rfl) (by kernel_rfl) (by kernel_rfl) (fun _ _ _ h => h) (Or.inl ⟨by rfl, ?_⟩) (by assumption) ?_
        rotate_left
        · intro w' hSw; (try dsimp only at hSw); go_simp; try with_reducible rfl
        try simp only [Act.put, List.setIfInBounds_toArray, List.set_cons_zero, List.set_cons_succ]
        refine wpAnyH_take (i := 9) (oi := { dst := some 26, op := Op.move (Operand.tmp 25), type := 4, pos := "terms.go:34", after := #[{ on := 8, ground := Ground.data }, { on := 7, ground := Ground.chain }], guard := none }) (v := ?_) rfl (by kernel_rfl) (by kernel_rfl) (by kernel_rfl) (fun _ _ _ h => h) (Or.inl ⟨by rfl, ?_⟩) (by assumption) ?_
        rotate_left
        · intro w' hSw; (try dsimp only at hSw); go_simp; try with_reducible rfl
        try simp only [Act.put, List.setIfInBounds_toArray, List.set_cons_zero, List.set_cons_succ]
        refine wpAnyH_take (i := 10) (oi := { dst := some 27, op := Op.fieldAddr 27 (Operand.tmp 2) 4, type := 0, pos := "terms.go:34", after := #[{ on := 9, ground := Ground.guard }], guard := some (9, true) }) (v := undef) rfl (by kernel_rfl) (by kernel_rfl) (by kernel_rfl) (fun _ _ _ h => h) (Or.inr ⟨by rfl, rfl⟩) (by assumption) ?_
        try simp only [Act.put, List.setIfInBounds_toArray, List.set_cons_zero, List.set_cons_succ]
        refine wpAnyH_take (i := 11) (oi := { dst := some 28, op := Op.load 25 (Operand.tmp 27), type := 25, pos := "terms.go:34", after := #[{ on := 10, ground := Ground.data }, { on := 9, ground := Ground.guard }], guard := some (9, true) }) (v := undef) rfl (by kernel_rfl) (by kernel_rfl) (by kernel_rfl) (fun _ _ _ h => h) (Or.inr ⟨by rfl, rfl⟩) (by assumption) ?_
        try simp only [Act.put, List.setIfInBounds_toArray, List.set_cons_zero, List.set_cons_succ]
        refine wpAnyH_take (i := 12) (oi := { dst := some 29, op := Op.call { callee := Callee.builtin Builtin.len, args := #[Operand.tmp 28], argTypes := #[25] }, type := 3, pos := "terms.go:34", after := #[{ on := 11, ground := Ground.data }, { on := 9, ground := Ground.guard }], guard := some (9, true) }) (v := undef) rfl (by kernel_rfl) (by kernel_rfl) (by kernel_rfl) (fun _ _ _ h => h) (Or.inr ⟨by rfl, rfl⟩) (by assumption) ?_
        try simp only [Act.put, List.setIfInBounds_toArray, List.set_cons_zero, List.set_cons_succ]
        refine wpAnyH_take (i := 13) (oi := { dst := some 30, op := Op.binOp BinOp.eql 3 (Operand.tmp 29) (Operand.const (Value.int IntKind.i64 0)) 3, type := 4, pos := "terms.go:34", after := #[{ on := 12, ground := Ground.data }, { on := 9, ground := Ground.guard }], guard := some (9, true) }) (v := undef) rfl (by kernel_rfl) (by kernel_rfl) (by kernel_rfl) (fun _ _ _ h => h) (Or.inr ⟨by rfl, rfl⟩) (by assumption) ?_
        try simp only [Act.put, List.setIfInBounds_toArray, List.set_cons_zero, List.set_cons_succ]
        refine wpAnyH_take (i := 14) (oi := { dst := some 31, op := Op.pick (Operand.tmp 26) (Operand.tmp 30) (Operand.const (Value.bool false)), type := 4, pos := "terms.go:34", after := #[{ on := 9, ground := Ground.data }, { on := 13, ground := Ground.data }], guard := none }) (v := ?_) rfl (by kernel_rfl) (by kernel_rfl) (by kernel_rfl) (fun _ _ _ h => h) (Or.inl ⟨by rfl, ?_⟩) (by assumption) ?_
        rotate_left
        · intro w' hSw; (try dsimp only at hSw); go_simp; try with_reducible rfl
        try simp only [Act.put, List.setIfInBounds_toArray, List.set_cons_zero, List.set_cons_succ]
        refine wpAnyH_take (i := 15) (oi := { dst := some 32, op := Op.move (Operand.tmp 31), type := 4, pos := "terms.go:34", after := #[{ on := 14, ground := Ground.data }, { on := 9, ground := Ground.chain }], guard := none }) (v := ?_) rfl (by kernel_rfl) (by kernel_rfl) (by kernel_rfl) (fun _ _ _ h => h) (Or.inl ⟨by rfl, ?_⟩) (by assumption) ?_
        rotate_left
        · intro w' hSw; (try dsimp only at hSw); go_simp; try with_reducible rfl
        try simp only [Act.put, List.setIfInBounds_toArray, List.set_cons_zero, List.set_cons_succ]
        refine wpAnyH_take (i := 16) (oi := { dst := some 33, op := Op.fieldAddr 27 (Operand.tmp 2) 2, type := 0, pos := "terms.go:34", after := #[{ on := 15, ground := Ground.guard }], guard := some (15, true) }) (v := undef) rfl (by kernel_rfl) (by kernel_rfl) (by kernel_rfl) (fun _ _ _ h => h) (Or.inr ⟨by rfl, rfl⟩) (by assumption) ?_
        try simp only [Act.put, List.setIfInBounds_toArray, List.set_cons_zero, List.set_cons_succ]
        refine wpAnyH_take (i := 17) (oi := { dst := some 34, op := Op.load 24 (Operand.tmp 33), type := 24, pos := "terms.go:34", after := #[{ on := 16, ground := Ground.data }, { on := 15, ground := Ground.guard }], guard := some (15, true) }) (v := undef) rfl (by kernel_rfl) (by kernel_rfl) (by kernel_rfl) (fun _ _ _ h => h) (Or.inr ⟨by rfl, rfl⟩) (by assumption) ?_
        try simp only [Act.put, List.setIfInBounds_toArray, List.set_cons_zero, List.set_cons_succ]
        refine wpAnyH_take (i := 18) (oi := { dst := some 35, op := Op.call { callee := Callee.value (Operand.func 113), args := #[Operand.tmp 34], argTypes := #[24] }, type := 34, pos := "terms.go:34", after := #[{ on := 17, ground := Ground.data }, { on := 15, ground := Ground.chain }, { on := 15, ground := Ground.guard }], guard := some (15, true) }) (v := undef) rfl (by kernel_rfl) (by kernel_rfl) (by kernel_rfl) (fun _ _ _ h => h) (Or.inr ⟨by rfl, rfl⟩) (by assumption) ?_
        try simp only [Act.put, List.setIfInBounds_toArray, List.set_cons_zero, List.set_cons_succ]
        refine wpAnyH_take (i := 19) (oi := { dst := some 36, op := Op.binOp BinOp.eql 34 (Operand.tmp 35) (Operand.const (Value.int IntKind.i64 0)) 34, type := 4, pos := "terms.go:34", after := #[{ on := 18, ground := Ground.data }, { on := 15, ground := Ground.guard }, { on := 21, ground := Ground.gcOnly Departure.lateStores }], guard := some (15, true) }) (v := undef) rfl (by kernel_rfl) (by kernel_rfl) (by kernel_rfl) (fun _ _ _ h => h) (Or.inr ⟨by rfl, rfl⟩) (by assumption) ?_
        try simp only [Act.put, List.setIfInBounds_toArray, List.set_cons_zero, List.set_cons_succ]
        refine wpAnyH_take (i := 20) (oi := { dst := some 37, op := Op.pick (Operand.tmp 32) (Operand.tmp 36) (Operand.const (Value.bool false)), type := 4, pos := "terms.go:34", after := #[{ on := 15, ground := Ground.data }, { on := 19, ground := Ground.data }, { on := 21, ground := Ground.gcOnly Departure.lateStores }], guard := none }) (v := ?_) rfl (by kernel_rfl) (by kernel_rfl) (by kernel_rfl) (fun _ _ _ h => h) (Or.inl ⟨by rfl, ?_⟩) (by assumption) ?_
        rotate_left
        · intro w' hSw; (try dsimp only at hSw); go_simp; try with_reducible rfl
        try simp only [Act.put, List.setIfInBounds_toArray, List.set_cons_zero, List.set_cons_succ]
        refine wpAnyH_ready (rs := [21]) (by kernel_rfl) (by simp) ?_
        refine AllReadyH.cons (o := { dst := none, op := Op.store 24 (Operand.tmp 4) (Operand.tmp 18), type := 0, pos := "terms.go:34", after := #[{ on := 1, ground := Ground.data }, { on := 18, ground := Ground.chain }, { on := 0, ground := Ground.phase }, { on := 1, ground := Ground.phase }, { on := 2, ground := Ground.textOnly Departure.lateStores }, { on := 3, ground := Ground.textOnly Departure.lateStoresUnsure }, { on := 4, ground := Ground.textOnly Departure.lateStores }, { on := 5, ground := Ground.textOnly Departure.lateStores }, { on := 6, ground := Ground.textOnly Departure.lateStores }, { on := 7, ground := Ground.textOnly Departure.lateStoresUnsure }, { on := 8, ground := Ground.textOnly Departure.lateStores }, { on := 9, ground := Ground.textOnly Departure.lateStores }, { on := 10, ground := Ground.textOnly Departure.lateStores }, { on := 11, ground := Ground.textOnly Departure.lateStores }, { on := 12, ground := Ground.textOnly Departure.lateStoresUnsure }, { on := 13, ground := Ground.textOnly Departure.lateStores }, { on := 14, ground := Ground.textOnly Departure.lateStores }, { on := 15, ground := Ground.textOnly Departure.lateStores }, { on := 16, ground := Ground.textOnly Departure.lateStores }, { on := 17, ground := Ground.textOnly Departure.lateStores }, { on := 18, ground := Ground.textOnly Departure.lateStoresUnsure }, { on := 19, ground := Ground.textOnly Departure.lateStores }, { on := 20, ground := Ground.textOnly Departure.lateStores }], guard := none }) rfl (fun K hK => ?_) AllReadyH.nil
        go_simp
        refine hK.out _ _ (by with_reducible exact hN.put (a := ra) (b := rb) (e := rc) _ _ _) (fun hHeld => ?_)
        clear hK K
        try simp only [Act.put, List.setIfInBounds_toArray, List.set_cons_zero, List.set_cons_succ]
        refine wpAnyH_take (i := 22) (oi := { dst := some 5, op := Op.assign (Operand.tmp 37), type := 4, pos := "terms.go:34", after := #[{ on := 20, ground := Ground.data }, { on := 21, ground := Ground.chain }, { on := 0, ground := Ground.phase }, { on := 1, ground := Ground.phase }, { on := 2, ground := Ground.phase }, { on := 3, ground := Ground.phase }, { on := 4, ground := Ground.phase }, { on := 5, ground := Ground.phase }, { on := 6, ground := Ground.phase }, { on := 7, ground := Ground.phase }, { on := 8, ground := Ground.phase }, { on := 9, ground := Ground.phase }, { on := 10, ground := Ground.phase }, { on := 11, ground := Ground.phase }, { on := 12, ground := Ground.phase }, { on := 13, ground := Ground.phase }, { on := 14, ground := Ground.phase }, { on := 15, ground := Ground.phase }, { on := 16, ground := Ground.phase }, { on := 17, ground := Ground.phase }, { on := 18, ground := Ground.phase }, { on := 19, ground := Ground.phase }, { on := 20, ground := Ground.phase }, { on := 21, ground := Ground.phase }], guard := none }) (v := ?_) rfl (by kernel_rfl) (by kernel_rfl) (by kernel_rfl) (fun _ _ _ h => h) (Or.inl ⟨by rfl, ?_⟩) (by assumption) ?_
        rotate_left
        · intro w' hSw; (try dsimp only at hSw); go_simp; try with_reducible rfl
        try simp only [Act.put, List.setIfInBounds_toArray, List.set_cons_zero, List.set_cons_succ]
        refine wpAnyH_done (by kernel_rfl) ?_ _
        go_wp2_with fail
        refine bodyPost_ret (results_ct rfl _ _ (w.heap.size + 1) 24 #[.bool t.f2.f0, .string t.f2.f1, .slice A t.f2.f2.length c] (0, 0) _ rfl (set3 BR) Try.underlying24 rfl (by kernel_rfl)) rfl ?_
        exact ⟨_, t.f2, by rw [HF.out]; rfl, hN.done hX, (fun v hv => by rw [HF.out] at hv; cases hv), ((hb.setCell (by simp) _).setCell (by simp) _).setCell (by simp) _⟩
    | true =>
      rw [hnv] at hF hnm
      by_cases h4 : t.f4.length = 0
      · have q4 : decide (t.f4.length = 0) = true := decide_eq_true h4
        have q4' : ((t.f4.length : Int) == 0) = true := by rw [h4]; rfl
        have HF := Aside0.mk (show formM t l = if chkB t.f2 = true then some t.f2 else none by rw [hF, h4]; simp)
        clear hF h4
        generalize chkB t.f2 = cb at *
        cases cb
        all_goals
          rcases hk' with h1 | ⟨h1, h2⟩
          all_goals
            go_enter Try.func168, Try.ntmps168
            go_wp2_with fail
            have hK0 := hS0.step (below_drew1 (Below.refl _ _))
            clear hS0
            go_region_held3 (fun W => FmS w t A c B d W)
              (first | (with_reducible exact hK0) | (with_reducible assumption) | (with_reducible exact hN.put (a := ra) (b := rb) (e := rc) _ _ _))
              (first
                | (go_at_call 113; (with_reducible refine (hck _ (by with_reducible assumption)).mono ?_); rintro e w3 ⟨rfl, hN⟩; obtain ⟨x0, x1, x2, x3, x4, x5, x6, ⟨ra, rb, rc, BR⟩, hb⟩ := id hN; obtain ⟨s0, s1, s2, s3, s4, s5, s6⟩ := box3s BR)
                | (go_at_call 178; (with_reducible refine (hnm _ (by with_reducible assumption)).mono ?_); rintro e w3 ⟨rfl, hN⟩; obtain ⟨x0, x1, x2, x3, x4, x5, x6, ⟨ra, rb, rc, BR⟩, hb⟩ := id hN; obtain ⟨s0, s1, s2, s3, s4, s5, s6⟩ := box3s BR)
                | (go_at_call 209; (with_reducible refine (hpl _ (by with_reducible assumption)).mono ?_); rintro e w3 ⟨rfl, hN⟩; obtain ⟨x0, x1, x2, x3, x4, x5, x6, ⟨ra, rb, rc, BR⟩, hb⟩ := id hN; obtain ⟨s0, s1, s2, s3, s4, s5, s6⟩ := box3s BR))
            go_wp2_with fail
            refine bodyPost_ret (results_ct rfl _ _ (w.heap.size + 1) 24 #[.bool t.f2.f0, .string t.f2.f1, .slice A t.f2.f2.length c] (0, 0) _ rfl (set3 BR) Try.underlying24 rfl (by kernel_rfl)) rfl ?_
            exact ⟨_, t.f2, by rw [HF.out]; rfl, hN.done hX, (fun v hv => by rw [HF.out] at hv; first | (cases hv; done) | (exact Option.some.inj hv)), ((hb.setCell (by simp) _).setCell (by simp) _).setCell (by simp) _⟩
      · have q4 : decide (t.f4.length = 0) = false := decide_eq_false h4
        have q4' : ((t.f4.length : Int) == 0) = false := beq_eq_false_iff_ne.mpr (by omega)
        have HF := Aside0.mk (show formM t l = none by rw [hF]; simp [h4])
        clear hF hck h4
        rcases hk' with h1 | ⟨h1, h2⟩
        all_goals
          go_enter Try.func168, Try.ntmps168
          go_wp2_with fail
          have hK0 := hS0.step (below_drew1 (Below.refl _ _))
          clear hS0
          refine wp_region_held_drew (S := fun W => FmS w t A c B d W) (by kernel_rfl) (by with_reducible exact hK0) (fun hHeld => ?_)
          refine wpAnyH_take (i := 0) (oi := { dst := some 17, op := Op.fieldAddr 27 (Operand.tmp 2) 2, type := 0, pos := "terms.go:34", after := #[], guard := none }) (v := ?_) rfl (by kernel_rfl) (by kernel_rfl) (by kernel_rfl) (fun _ _ _ h => h) (Or.inl ⟨by rfl, ?_⟩) (by assumption) ?_
          rotate_left
          · intro w' hSw; (try dsimp only at hSw); go_simp; try with_reducible rfl
          try simp only [Act.put, List.setIfInBounds_toArray, List.set_cons_zero, List.set_cons_succ]
          refine wpAnyH_take (i := 1) (oi := { dst := some 18, op := Op.load 24 (Operand.tmp 17), type := 24, pos := "terms.go:34", after := #[{ on := 0, ground := Ground.data }], guard := none }) (v := ?_) rfl (by kernel_rfl) (by kernel_rfl) (by kernel_rfl) (fun _ _ _ h => h) (Or.inl ⟨by rfl, ?_⟩) (by assumption) ?_
          rotate_left
          · intro w' hSw; (try dsimp only at hSw); go_simp; try with_reducible rfl
          try simp only [Act.put, List.setIfInBounds_toArray, List.set_cons_zero, List.set_cons_succ]
          refine wpAnyH_take (i := 2) (oi := { dst := some 19, op := Op.load 27 (Operand.tmp 2), type := 27, pos := "terms.go:34", after := #[], guard := none }) (v := ?_) rfl (by kernel_rfl) (by kernel_rfl) (by kernel_rfl) (fun _ _ _ h => h) (Or.inl ⟨by rfl, ?_⟩) (by assumption) ?_
          rotate_left
          · intro w' hSw; (try dsimp only at hSw); go_simp; try with_reducible rfl
          try simp only [Act.put, List.setIfInBounds_toArray, List.set_cons_zero, List.set_cons_succ]
          refine wpAnyH_ready (rs := [3]) (by kernel_rfl) (by simp) ?_
          refine AllReadyH.cons (o := { dst := some 20, op := Op.call { callee := Callee.value (Operand.func 209), args := #[Operand.tmp 19, Operand.const (Value.bool true), Operand.const (Value.bool true), Operand.const (Value.bool false)], argTypes := #[27, 4, 4, 4] }, type := 4, pos := "terms.go:34", after := #[{ on := 2, ground := Ground.data }], guard := none }) rfl (fun K hK => ?_) AllReadyH.nil
          go_simp
          go_wp2_with (go_at_call 209; (with_reducible refine (hpl _ (by with_reducible assumption)).mono ?_); rintro e w3 ⟨rfl, hN⟩; obtain ⟨x0, x1, x2, x3, x4, x5, x6, ⟨ra, rb, rc, BR⟩, hb⟩ := id hN; obtain ⟨s0, s1, s2, s3, s4, s5, s6⟩ := box3s BR)
          refine hK.out _ _ (by with_reducible assumption) (fun hHeld => ?_)
          clear hK K
          try simp only [Act.put, List.setIfInBounds_toArray, List.set_cons_zero, List.set_cons_succ]
          refine wpAnyH_take (i := 4) (oi := { dst := some 21, op := Op.move (Operand.tmp 20), type := 4, pos := "terms.go:34", after := #[{ on := 3, ground := Ground.data }, { on := 3, ground := Ground.chain }], guard := none }) (v := ?_) rfl (by kernel_rfl) (by kernel_rfl) (by kernel_rfl) (fun _ _ _ h => h) (Or.inl ⟨by rfl, ?_⟩) (by assumption) ?_
          rotate_left
          · intro w' hSw; (try dsimp only at hSw); go_simp; try with_reducible rfl
          try simp only [Act.put, List.setIfInBounds_toArray, List.set_cons_zero, List.set_cons_succ]
          refine wpAnyH_take (i := 5) (oi := { dst := some 22, op := Op.fieldAddr 27 (Operand.tmp 2) 1, type := 0, pos := "terms.go:34", after := #[{ on := 4, ground := Ground.guard }], guard := some (4, true) }) (v := ?_) rfl (by kernel_rfl) (by kernel_rfl) (by kernel_rfl) (fun _ _ _ h => h) (Or.inl ⟨by rfl, ?_⟩) (by assumption) ?_
          rotate_left
          · intro w' hSw; (try dsimp only at hSw); go_simp; try with_reducible rfl
          try simp only [Act.put, List.setIfInBounds_toArray, List.set_cons_zero, List.set_cons_succ]
          refine wpAnyH_take (i := 6) (oi := { dst := some 23, op := Op.load 9 (Operand.tmp 22), type := 9, pos := "terms.go:34", after := #[{ on := 5, ground := Ground.data }, { on := 4, ground := Ground.guard }], guard := some (4, true) }) (v := ?_) rfl (by kernel_rfl) (by kernel_rfl) (by kernel_rfl) (fun _ _ _ h => h) (Or.inl ⟨by rfl, ?_⟩) (by assumption) ?_
          rotate_left
          · intro w' hSw; (try dsimp only at hSw); go_simp; try with_reducible rfl
          try simp only [Act.put, List.setIfInBounds_toArray, List.set_cons_zero, List.set_cons_succ]
          refine wpAnyH_ready (rs := [7]) (by kernel_rfl) (by simp) ?_
          refine AllReadyH.cons (o := { dst := some 24, op := Op.call { callee := Callee.value (Operand.func 178), args := #[Operand.tmp 23], argTypes := #[9] }, type := 4, pos := "terms.go:34", after := #[{ on := 6, ground := Ground.data }, { on := 4, ground := Ground.chain }, { on := 4, ground := Ground.guard }], guard := some (4, true) }) rfl (fun K hK => ?_) AllReadyH.nil
          go_simp
          go_wp2_with (go_at_call 178; (with_reducible refine (hnm _ (by with_reducible assumption)).mono ?_); rintro e w3 ⟨rfl, hN⟩; obtain ⟨x0, x1, x2, x3, x4, x5, x6, ⟨ra, rb, rc, BR⟩, hb⟩ := id hN; obtain ⟨s0, s1, s2, s3, s4, s5, s6⟩ := box3s BR)
          refine hK.out _ _ (by with_reducible assumption) (fun hHeld => ?_)
          clear hK K
          try simp only [Act.put, List.setIfInBounds_toArray, List.set_cons_zero, List.set_cons_succ]
          refine wpAnyH_take (i := 8) (oi := { dst := some 25, op := Op.pick (Operand.tmp 21) (Operand.tmp 24) (Operand.const (Value.bool false)), type := 4, pos := "terms.go:34", after := #[{ on := 4, ground := Ground.data }, { on := 7, ground := Ground.data }], guard := none }) (v := ?_) rfl (by kernel_rfl) (by kernel_rfl) (by kernel_rfl) (fun _ _ _ h => h) (Or.inl ⟨by rfl, ?_⟩) (by assumption) ?_
          rotate_left
          · intro w' hSw; (try dsimp only at hSw); go_simp; try with_reducible rfl
          try simp only [Act.put, List.setIfInBounds_toArray, List.set_cons_zero, List.set_cons_succ]
          refine wpAnyH_take (i := 9) (oi := { dst := some 26, op := Op.move (Operand.tmp 25), type := 4, pos := "terms.go:34", after := #[{ on := 8, ground := Ground.data }, { on := 7, ground := Ground.chain }], guard := none }) (v := ?_) rfl (by kernel_rfl) (by kernel_rfl) (by kernel_rfl) (fun _ _ _ h => h) (Or.inl ⟨by rfl, ?_⟩) (by assumption) ?_
          rotate_left
          · intro w' hSw; (try dsimp only at hSw); go_simp; try with_reducible rfl
          try simp only [Act.put, List.setIfInBounds_toArray, List.set_cons_zero, List.set_cons_succ]
          refine wpAnyH_take (i := 10) (oi := { dst := some 27, op := Op.fieldAddr 27 (Operand.tmp 2) 4, type := 0, pos := "terms.go:34", after := #[{ on := 9, ground := Ground.guard }], guard := some (9, true) }) (v := ?_) rfl (by kernel_rfl) (by kernel_rfl) (by kernel_rfl) (fun _ _ _ h => h) (Or.inl ⟨by rfl, ?_⟩) (by assumption) ?_
          rotate_left
          · intro w' hSw; (try dsimp only at hSw); go_simp; try with_reducible rfl
          try simp only [Act.put, List.setIfInBounds_toArray, List.set_cons_zero, List.set_cons_succ]
          refine wpAnyH_take (i := 11) (oi := { dst := some 28, op := Op.load 25 (Operand.tmp 27), type := 25, pos := "terms.go:34", after := #[{ on := 10, ground := Ground.data }, { on := 9, ground := Ground.guard }], guard := some (9, true) }) (v := ?_) rfl (by kernel_rfl) (by kernel_rfl) (by kernel_rfl) (fun _ _ _ h => h) (Or.inl ⟨by rfl, ?_⟩) (by assumption) ?_
          rotate_left
          · intro w' hSw; (try dsimp only at hSw); go_simp; try with_reducible rfl
          try simp only [Act.put, List.setIfInBounds_toArray, List.set_cons_zero, List.set_cons_succ]
          refine wpAnyH_take (i := 12) (oi := { dst := some 29, op := Op.call { callee := Callee.builtin Builtin.len, args := #[Operand.tmp 28], argTypes := #[25] }, type := 3, pos := "terms.go:34", after := #[{ on := 11, ground := Ground.data }, { on := 9, ground := Ground.guard }], guard := some (9, true) }) (v := ?_) rfl (by kernel_rfl) (by kernel_rfl) (by kernel_rfl) (fun _ _ _ h => h) (Or.inl ⟨by rfl, ?_⟩) (by assumption) ?_
          rotate_left
          · intro w' hSw; (try dsimp only at hSw); go_simp; try with_reducible rfl
          try simp only [Act.put, List.setIfInBounds_toArray, List.set_cons_zero, List.set_cons_succ]
          refine wpAnyH_take (i := 13) (oi := { dst := some 30, op := Op.binOp BinOp.eql 3 (Operand.tmp 29) (Operand.const (Value.int IntKind.i64 0)) 3, type := 4, pos := "terms.go:34", after := #[{ on := 12, ground := Ground.data }, { on := 9, ground := Ground.guard }], guard := some (9, true) }) (v := ?_) rfl (by kernel_rfl) (by kernel_rfl) (by kernel_rfl) (fun _ _ _ h => h) (Or.inl ⟨by rfl, ?_⟩) (by assumption) ?_
          rotate_left
          · intro w' hSw; (try dsimp only at hSw); go_simp; try with_reducible rfl
          try simp only [Act.put, List.setIfInBounds_toArray, List.set_cons_zero, List.set_cons_succ]
          refine wpAnyH_take (i := 14) (oi := { dst := some 31, op := Op.pick (Operand.tmp 26) (Operand.tmp 30) (Operand.const (Value.bool false)), type := 4, pos := "terms.go:34", after := #[{ on := 9, ground := Ground.data }, { on := 13, ground := Ground.data }], guard := none }) (v := ?_) rfl (by kernel_rfl) (by kernel_rfl) (by kernel_rfl) (fun _ _ _ h => h) (Or.inl ⟨by rfl, ?_⟩) (by assumption) ?_
          rotate_left
          · intro w' hSw; (try dsimp only at hSw); go_simp; try with_reducible rfl
          try simp only [Act.put, List.setIfInBounds_toArray, List.set_cons_zero, List.set_cons_succ]
          refine wpAnyH_take (i := 15) (oi := { dst := some 32, op := Op.move (Operand.tmp 31), type := 4, pos := "terms.go:34", after := #[{ on := 14, ground := Ground.data }, { on := 9, ground := Ground.chain }], guard := none }) (v := ?_) rfl (by kernel_rfl) (by kernel_rfl) (by kernel_rfl) (fun _ _ _ h => h) (Or.inl ⟨by rfl, ?_⟩) (by assumption) ?_
          rotate_left
          · intro w' hSw; (try dsimp only at hSw); go_simp; try with_reducible rfl
          try simp only [Act.put, List.setIfInBounds_toArray, List.set_cons_zero, List.set_cons_succ]
          refine wpAnyH_take (i := 16) (oi := { dst := some 33, op := Op.fieldAddr 27 (Operand.tmp 2) 2, type := 0, pos := "terms.go:34", after := #[{ on := 15, ground := Ground.guard }], guard := some (15, true) }) (v := undef) rfl (by kernel_rfl) (by kernel_rfl) (by kernel_rfl) (fun _ _ _ h => h) (Or.inr ⟨by rfl, rfl⟩) (by assumption) ?_
          try simp only [Act.put, List.setIfInBounds_toArray, List.set_cons_zero, List.set_cons_succ]
          refine wpAnyH_take (i := 17) (oi := { dst := some 34, op := Op.load 24 (Operand.tmp 33), type := 24, pos := "terms.go:34", after := #[{ on := 16, ground := Ground.data }, { on := 15, ground := Ground.guard }], guard := some (15, true) }) (v := undef) rfl (by kernel_rfl) (by kernel_rfl) (by kernel_rfl) (fun _ _ _ h => h) (Or.inr ⟨by rfl, rfl⟩) (by assumption) ?_
          try simp only [Act.put, List.setIfInBounds_toArray, List.set_cons_zero, List.set_cons_succ]
          refine wpAnyH_take (i := 18) (oi := { dst := some 35, op := Op.call { callee := Callee.value (Operand.func 113), args := #[Operand.tmp 34], argTypes := #[24] }, type := 34, pos := "terms.go:34", after := #[{ on := 17, ground := Ground.data }, { on := 15, ground := Ground.chain }, { on := 15, ground := Ground.guard }], guard := some (15, true) }) (v := undef) rfl (by kernel_rfl) (by kernel_rfl) (by kernel_rfl) (fun _ _ _ h => h) (Or.inr ⟨by rfl, rfl⟩) (by assumption) ?_
          try simp only [Act.put, List.setIfInBounds_toArray, List.set_cons_zero, List.set_cons_succ]
          refine wpAnyH_take (i := 19) (oi := { dst := some 36, op := Op.binOp BinOp.eql 34 (Operand.tmp 35) (Operand.const (Value.int IntKind.i64 0)) 34, type := 4, pos := "terms.go:34", after := #[{ on := 18, ground := Ground.data }, { on := 15, ground := Ground.guard }, { on := 21, ground := Ground.gcOnly Departure.lateStores }], guard := some (15, true) }) (v := undef) rfl (by kernel_rfl) (by kernel_rfl) (by kernel_rfl) (fun _ _ _ h => h) (Or.inr ⟨by rfl, rfl⟩) (by assumption) ?_
          try simp only [Act.put, List.setIfInBounds_toArray, List.set_cons_zero, List.set_cons_succ]
          refine wpAnyH_take (i := 20) (oi := { dst := some 37, op := Op.pick (Operand.tmp 32) (Operand.tmp 36) (Operand.const (Value.bool false)), type := 4, pos := "terms.go:34", after := #[{ on := 15, ground := Ground.data }, { on := 19, ground := Ground.data }, { on := 21, ground := Ground.gcOnly Departure.lateStores }], guard := none }) (v := ?_) rfl (by kernel_rfl) (by kernel_rfl) (by kernel_rfl) (fun _ _ _ h => h) (Or.inl ⟨by rfl, ?_⟩) (by assumption) ?_
          rotate_left
          · intro w' hSw; (try dsimp only at hSw); go_simp; try with_reducible rfl
          try simp only [Act.put, List.setIfInBounds_toArray, List.set_cons_zero, List.set_cons_succ]
          refine wpAnyH_ready (rs := [21]) (by kernel_rfl) (by simp) ?_
          refine AllReadyH.cons (o := { dst := none, op := Op.store 24 (Operand.tmp 4) (Operand.tmp 18), type := 0, pos := "terms.go:34", after := #[{ on := 1, ground := Ground.data }, { on := 18, ground := Ground.chain }, { on := 0, ground := Ground.phase }, { on := 1, ground := Ground.phase }, { on := 2, ground := Ground.textOnly Departure.lateStores }, { on := 3, ground := Ground.textOnly Departure.lateStoresUnsure }, { on := 4, ground := Ground.textOnly Departure.lateStores }, { on := 5, ground := Ground.textOnly Departure.lateStores }, { on := 6, ground := Ground.textOnly Departure.lateStores }, { on := 7, ground := Ground.textOnly Departure.lateStoresUnsure }, { on := 8, ground := Ground.textOnly Departure.lateStores }, { on := 9, ground := Ground.textOnly Departure.lateStores }, { on := 10, ground := Ground.textOnly Departure.lateStores }, { on := 11, ground := Ground.textOnly Departure.lateStores }, { on := 12, ground := Ground.textOnly Departure.lateStoresUnsure }, { on := 13, ground := Ground.textOnly Departure.lateStores }, { on := 14, ground := Ground.textOnly Departure.lateStores }, { on := 15, ground := Ground.textOnly Departure.lateStores }, { on := 16, ground := Ground.textOnly Departure.lateStores }, { on := 17, ground := Ground.textOnly Departure.lateStores }, { on := 18, ground := Ground.textOnly Departure.lateStoresUnsure }, { on := 19, ground := Ground.textOnly Departure.lateStores }, { on := 20, ground := Ground.textOnly Departure.lateStores }], guard := none }) rfl (fun K hK => ?_) AllReadyH.nil
          go_simp
          refine hK.out _ _ (by with_reducible exact hN.put (a := ra) (b := rb) (e := rc) _ _ _) (fun hHeld => ?_)
          clear hK K
          try simp only [Act.put, List.setIfInBounds_toArray, List.set_cons_zero, List.set_cons_succ]
          refine wpAnyH_take (i := 22) (oi := { dst := some 5, op := Op.assign (Operand.tmp 37), type := 4, pos := "terms.go:34", after := #[{ on := 20, ground := Ground.data }, { on := 21, ground := Ground.chain }, { on := 0, ground := Ground.phase }, { on := 1, ground := Ground.phase }, { on := 2, ground := Ground.phase }, { on := 3, ground := Ground.phase }, { on := 4, ground := Ground.phase }, { on := 5, ground := Ground.phase }, { on := 6, ground := Ground.phase }, { on := 7, ground := Ground.phase }, { on := 8, ground := Ground.phase }, { on := 9, ground := Ground.phase }, { on := 10, ground := Ground.phase }, { on := 11, ground := Ground.phase }, { on := 12, ground := Ground.phase }, { on := 13, ground := Ground.phase }, { on := 14, ground := Ground.phase }, { on := 15, ground := Ground.phase }, { on := 16, ground := Ground.phase }, { on := 17, ground := Ground.phase }, { on := 18, ground := Ground.phase }, { on := 19, ground := Ground.phase }, { on := 20, ground := Ground.phase }, { on := 21, ground := Ground.phase }], guard := none }) (v := ?_) rfl (by kernel_rfl) (by kernel_rfl) (by kernel_rfl) (fun _ _ _ h => h) (Or.inl ⟨by rfl, ?_⟩) (by assumption) ?_
          rotate_left
          · intro w' hSw; (try dsimp only at hSw); go_simp; try with_reducible rfl
          try simp only [Act.put, List.setIfInBounds_toArray, List.set_cons_zero, List.set_cons_succ]
          refine wpAnyH_done (by kernel_rfl) ?_ _
          go_wp2_with fail
          refine bodyPost_ret (results_ct rfl _ _ (w.heap.size + 1) 24 #[.bool t.f2.f0, .string t.f2.f1, .slice A t.f2.f2.length c] (0, 0) _ rfl (set3 BR) Try.underlying24 rfl (by kernel_rfl)) rfl ?_
          exact ⟨_, t.f2, by rw [HF.out]; rfl, hN.done hX, (fun v hv => by rw [HF.out] at hv; cases hv), ((hb.setCell (by simp) _).setCell (by simp) _).setCell (by simp) _⟩
end Go.Proofs.Ytecplbgdalchdaa.Q
/- Proved here: what terms.formed answers on bound variables and on terms of no kind. Conditions: those that each theorem names. -/
namespace Go.Proofs.Ytecplbgdalchdaa.Q
open Go.RowKit Go.Shelf Go.Proofs.YtecplbgdalchdaaW.PrintWords Go.Proofs.YtecplbgdalchdaaW.PrintMore
set_option linter.unusedVariables false
set_option linter.unusedSimpArgs false
attribute [local go_sem] Oper.semAt_some

theorem formM_bound (t : S27) (l : List S24) (hk : t.f0 = 3) : formM t l = if (t.f1.size == 0 && isZ t.f2) && (t.f4.length == 0 && (decide (0 ≤ t.f3) && decide (t.f3 < l.length))) then l[t.f3.toNat]? else none := by
  rw [formM_eq, formML_map]
  unfold formH
  rw [if_neg (by omega), if_pos hk, List.length_map]
theorem formM_odd (t : S27) (l : List S24) (h1 : t.f0 ≠ 1) (h2 : t.f0 ≠ 2) (h3 : t.f0 ≠ 3) (h4 : t.f0 ≠ 4) (h5 : t.f0 ≠ 5) : formM t l = none := by
  rw [formM_eq]
  unfold formH
  rw [if_neg (by omega), if_neg h3, if_neg h4, if_neg h5]
set_option maxHeartbeats 4000000 in
set_option maxRecDepth 100000 in
theorem formed_odd (t : S27) (l : List S24) (h1 : t.f0 ≠ 1) (h2 : t.f0 ≠ 2) (h3 : t.f0 ≠ 3) (h4 : t.f0 ≠ 4) (h5 : t.f0 ≠ 5) (A : Option Addr) (c : Nat) (B : Option Addr) (d : Nat) (E : Option Addr) (n ce : Nat) (w : World) (ok : Nat → Prop) :
    Calls Try.prog 168 #[.agg #[.int .u8 t.f0, .string t.f1, .bool t.f2.f0, .string t.f2.f1, .slice A t.f2.f2.length c, .int .i64 t.f3, .slice B t.f4.length d], .slice E n ce] w (FormPost w ok (formM t l)) := by
  have hS0 := FmS.start w t A c B d
  have BR := (two_new w (.cells #[.int .u8 t.f0, .string t.f1, .bool t.f2.f0, .string t.f2.f1, .slice A t.f2.f2.length c, .int .i64 t.f3, .slice B t.f4.length d] 27) (.cells #[.bool false, .string ⟨#[]⟩, .slice none 0 0] 24)).2.2
  have HF := Aside0.mk (formM_odd t l h1 h2 h3 h4 h5)
  have q1 : (t.f0 == 1) = false := beq_eq_false_iff_ne.mpr h1
  have q2 : (t.f0 == 2) = false := beq_eq_false_iff_ne.mpr h2
  have q3 : (t.f0 == 3) = false := beq_eq_false_iff_ne.mpr h3
  have q4 : (t.f0 == 4) = false := beq_eq_false_iff_ne.mpr h4
  have q5 : (t.f0 == 5) = false := beq_eq_false_iff_ne.mpr h5
  obtain ⟨x0, x1, x2, x3, x4, x5, x6, _, hb⟩ := id hS0
  obtain ⟨s0, s1, s2, s3, s4, s5, s6⟩ := box3s BR
  clear h1 h2 h3 h4 h5 hS0
  go_enter Try.func168, Try.ntmps168
  go_wp2_with fail
  refine bodyPost_ret (results_ct rfl _ _ (w.heap.size + 1) 24 #[.bool false, .string ⟨#[]⟩, .slice none 0 0] (0, 0) _ rfl BR Try.underlying24 rfl (by kernel_rfl)) rfl ?_
  exact ⟨_, zT, by rw [HF.out]; rfl, TrF.leaf _ _ _ _, (fun v hv => by rw [HF.out] at hv; cases hv), hb⟩
set_option maxHeartbeats 4000000 in
set_option maxRecDepth 100000 in
theorem formed_bound (t : S27) (lo : List S24) (hk : t.f0 = 3) (A : Option Addr) (c : Nat) (B : Option Addr) (d : Nat) (E : Option Addr) (ce : Nat) (w : World) (ok : Nat → Prop) (hX : RdF w ok t A c B d) (hE : Kd.F k24 w ok E lo.length lo) (hce : lo.length ≤ ce) :
    Calls Try.prog 168 #[.agg #[.int .u8 t.f0, .string t.f1, .bool t.f2.f0, .string t.f2.f1, .slice A t.f2.f2.length c, .int .i64 t.f3, .slice B t.f4.length d], .slice E lo.length ce] w (FormPost w ok (formM t lo.reverse)) := by
  have hS0 := FmS.start w t A c B d
  have BR := (two_new w (.cells #[.int .u8 t.f0, .string t.f1, .bool t.f2.f0, .string t.f2.f1, .slice A t.f2.f2.length c, .int .i64 t.f3, .slice B t.f4.length d] 27) (.cells #[.bool false, .string ⟨#[]⟩, .slice none 0 0] 24)).2.2
  have hpl := fun W (hw : Below w.heap.size w W) => terms_plain.calls t.f0 t.f1 t.f2.f0 t.f2.f1 A c t.f2.f2 t.f3 B d t.f4 false false true _ W (hX.at hw).1.1 hX.1.2 (hX.at hw).2.1 hX.2.2 (plain_fft t)
  have hF := formM_bound t lo.reverse hk
  rw [List.length_reverse] at hF
  have hlen : lo.length ≤ 9223372036854775807 := (Kd.F_now hE).2.1
  have q1 : (t.f0 == 1) = false := by rw [hk]; rfl
  have q2 : (t.f0 == 2) = false := by rw [hk]; rfl
  have q3 : (t.f0 == 3) = true := by rw [hk]; rfl
  obtain ⟨x0, x1, x2, x3, x4, x5, x6, _, hb⟩ := id hS0
  have HE := Aside0.mk (Kd.V_mk (e := 24) (base := 0) hce hE)
  clear hk hX hE hce
  generalize (t.f1.size == 0 && isZ t.f2) = pz at *
  cases pz with
  | false =>
    have HF := Aside0.mk (show formM t lo.reverse = none by rw [hF]; simp)
    clear hF
    go_enter Try.func168, Try.ntmps168
    go_wp2_with (go_at_call 209; (with_reducible refine (hpl _ hS0.below).mono ?_); rintro e w3 ⟨rfl, hb3⟩; have hN := hS0.step hb3; have BR3 := blk_below BR hb3; obtain ⟨x0, x1, x2, x3, x4, x5, x6, _, hb⟩ := id hN; obtain ⟨s0, s1, s2, s3, s4, s5, s6⟩ := box3s BR3)
    refine bodyPost_ret (results_ct rfl _ _ (w.heap.size + 1) 24 #[.bool false, .string ⟨#[]⟩, .slice none 0 0] (0, 0) _ rfl (set3 BR3) Try.underlying24 rfl (by kernel_rfl)) rfl ?_
    exact ⟨_, zT, by rw [HF.out]; rfl, TrF.leaf _ _ _ _, (fun v hv => by rw [HF.out] at hv; cases hv), ((hb.setCell (by simp) _).setCell (by simp) _).setCell (by simp) _⟩
  | true =>
    by_cases h4 : t.f4.length = 0
    · have q4 : decide (0 < t.f4.length) = false := decide_eq_false (by omega)
      by_cases h5 : t.f3 < 0
      · have q5 : decide (t.f3 < 0) = true := decide_eq_true h5
        have HF := Aside0.mk (show formM t lo.reverse = none by rw [hF, decide_eq_false (show ¬ 0 ≤ t.f3 by omega)]; simp)
        clear hF h4 h5
        go_enter Try.func168, Try.ntmps168
        go_wp2_with (go_at_call 209; (with_reducible refine (hpl _ hS0.below).mono ?_); rintro e w3 ⟨rfl, hb3⟩; have hN := hS0.step hb3; have BR3 := blk_below BR hb3; obtain ⟨x0, x1, x2, x3, x4, x5, x6, _, hb⟩ := id hN; obtain ⟨s0, s1, s2, s3, s4, s5, s6⟩ := box3s BR3)
        refine bodyPost_ret (results_ct rfl _ _ (w.heap.size + 1) 24 #[.bool false, .string ⟨#[]⟩, .slice none 0 0] (0, 0) _ rfl (set3 BR3) Try.underlying24 rfl (by kernel_rfl)) rfl ?_
        exact ⟨_, zT, by rw [HF.out]; rfl, TrF.leaf _ _ _ _, (fun v hv => by rw [HF.out] at hv; cases hv), ((hb.setCell (by simp) _).setCell (by simp) _).setCell (by simp) _⟩
      · have q5 : decide (t.f3 < 0) = false := decide_eq_false h5
        by_cases h6 : (lo.length : Int) ≤ t.f3
        · have q6 : decide ((lo.length : Int) ≤ t.f3) = true := decide_eq_true h6
          have HF := Aside0.mk (show formM t lo.reverse = none by rw [hF, decide_eq_false (show ¬ t.f3 < (lo.length : Int) by omega)]; simp)
          clear hF h4 h5 h6
          go_enter Try.func168, Try.ntmps168
          go_wp2_with (go_at_call 209; (with_reducible refine (hpl _ hS0.below).mono ?_); rintro e w3 ⟨rfl, hb3⟩; have hN := hS0.step hb3; have BR3 := blk_below BR hb3; obtain ⟨x0, x1, x2, x3, x4, x5, x6, _, hb⟩ := id hN; obtain ⟨s0, s1, s2, s3, s4, s5, s6⟩ := box3s BR3)
          refine bodyPost_ret (results_ct rfl _ _ (w.heap.size + 1) 24 #[.bool false, .string ⟨#[]⟩, .slice none 0 0] (0, 0) _ rfl (set3 BR3) Try.underlying24 rfl (by kernel_rfl)) rfl ?_
          exact ⟨_, zT, by rw [HF.out]; rfl, TrF.leaf _ _ _ _, (fun v hv => by rw [HF.out] at hv; cases hv), ((hb.setCell (by simp) _).setCell (by simp) _).setCell (by simp) _⟩
        · have q6 : decide ((lo.length : Int) ≤ t.f3) = false := decide_eq_false h6
          obtain ⟨m, hm⟩ : ∃ m : Nat, (lo.length : Int) - 1 - t.f3 = (m : Int) := ⟨(lo.length - 1 - t.f3.toNat : Nat), by omega⟩
          have hml : m < lo.length := by omega
          have e1 : IntKind.i64.wrap ((lo.length : Int) - 1) = (lo.length : Int) - 1 := by rw [IntKind.wrap_i64]; omega
          have e2 : IntKind.i64.wrap ((lo.length : Int) - 1 - t.f3) = (m : Int) := by rw [hm, IntKind.wrap_i64]; omega
          have e3 : wrap64 ((lo.length : Int) - 1) = (lo.length : Int) - 1 := w64 (by omega) (by omega)
          have e4 : wrap64 ((lo.length : Int) - 1 - t.f3) = (m : Int) := by rw [hm]; exact w64 (by omega) (by omega)
          have hF2 : formM t lo.reverse = some (rd_T24 lo (m : Int)) := by
            rw [hF, decide_eq_true (show 0 ≤ t.f3 by omega), decide_eq_true (show t.f3 < (lo.length : Int) by omega), h4, rdT lo m hml]
            have hi : t.f3.toNat < lo.reverse.length := by rw [List.length_reverse]; omega
            simp only [beq_self_eq_true, Bool.and_self, if_true]
            rw [List.getElem?_eq_getElem hi, List.getElem_reverse]
            congr 2
            omega
          have HF := Aside0.mk hF2
          have m0 : (0 : Int) ≤ (m : Int) := by omega
          have m1 : (m : Int) < (lo.length : Int) := by omega
          clear hF hF2 h4 h5 h6
          obtain ⟨ed, A5, c5, hE5, g0, g1, g2, l5, hV5⟩ := ty_elem HE.out m hml
          have hC5 := Kd.V_F hV5
          clear hm hV5
          subst hE5
          generalize rd_T24 lo (m : Int) = u at *
          have hb0 := hb
          go_enter Try.func168, Try.ntmps168
          go_wp2_with (go_at_call 209; (with_reducible refine (hpl _ hS0.below).mono ?_); rintro e w3 ⟨rfl, hb3⟩; have hN := hS0.step hb3; have BR3 := blk_below BR hb3; obtain ⟨x0, x1, x2, x3, x4, x5, x6, _, hb⟩ := id hN; obtain ⟨s0, s1, s2, s3, s4, s5, s6⟩ := box3s BR3; have g0 := pw_cell_below (below_step hb0 hb3) g0; have g1 := pw_cell_below (below_step hb0 hb3) g1; have g2 := pw_cell_below (below_step hb0 hb3) g2)
          refine bodyPost_ret (results_ct rfl _ _ (w.heap.size + 1) 24 #[.bool u.f0, .string u.f1, .slice A5 u.f2.length c5] (0, 0) _ rfl (set3 BR3) Try.underlying24 rfl (by kernel_rfl)) rfl ?_
          have hfin := ((hb.setCell (p := ⟨w.heap.size + 1, 0, none⟩) (by simp) (.bool u.f0)).setCell (p := ⟨w.heap.size + 1, 1, none⟩) (by simp) (.string u.f1)).setCell (p := ⟨w.heap.size + 1, 2, none⟩) (by simp) (.slice A5 u.f2.length c5)
          exact ⟨_, u, by rw [HF.out]; rfl, ⟨A5, c5, rfl, l5, Kd.F_mono (Kd.F_below hC5 hfin) (fun k hk => .inl hk)⟩, (fun v hv => by rw [HF.out] at hv; exact Option.some.inj hv), hfin⟩
    · have q4 : decide (0 < t.f4.length) = true := decide_eq_true (by omega)
      have HF := Aside0.mk (show formM t lo.reverse = none by rw [hF]; simp [h4])
      clear hF h4
      go_enter Try.func168, Try.ntmps168
      go_wp2_with (go_at_call 209; (with_reducible refine (hpl _ hS0.below).mono ?_); rintro e w3 ⟨rfl, hb3⟩; have hN := hS0.step hb3; have BR3 := blk_below BR hb3; obtain ⟨x0, x1, x2, x3, x4, x5, x6, _, hb⟩ := id hN; obtain ⟨s0, s1, s2, s3, s4, s5, s6⟩ := box3s BR3)
      refine bodyPost_ret (results_ct rfl _ _ (w.heap.size + 1) 24 #[.bool false, .string ⟨#[]⟩, .slice none 0 0] (0, 0) _ rfl (set3 BR3) Try.underlying24 rfl (by kernel_rfl)) rfl ?_
      exact ⟨_, zT, by rw [HF.out]; rfl, TrF.leaf _ _ _ _, (fun v hv => by rw [HF.out] at hv; cases hv), ((hb.setCell (by simp) _).setCell (by simp) _).setCell (by simp) _⟩
end Go.Proofs.Ytecplbgdalchdaa.Q
/- Proved here: what terms.formed answers on abstractions that are no terms. Conditions: those that each theorem names. -/
namespace Go.Proofs.Ytecplbgdalchdaa.Q
open Go.RowKit Go.Shelf Go.Proofs.YtecplbgdalchdaaW.PrintWords Go.Proofs.YtecplbgdalchdaaW.PrintMore
set_option linter.unusedVariables false
set_option linter.unusedSimpArgs false
attribute [local go_sem] Oper.semAt_some

theorem formM_abs (t : S27) (l : List S24) (hk : t.f0 = 5) : formM t l = if (nmV t.f1 && chkB t.f2) && t.f3 == 0 then formB t.f2 (t.f4.map fun x => formM x (t.f2 :: l)) else none := by
  rw [formM_eq, formML_map]
  unfold formH inner
  rw [if_neg (by omega), if_neg (by omega), if_neg (by omega), if_pos hk, if_pos hk]
theorem formB_len {ty : S24} {rs : List (Option S24)} (h : rs.length ≠ 1) : formB ty rs = none := by
  unfold formB
  split
  · exact absurd rfl h
  · rfl
set_option maxHeartbeats 4000000 in
set_option maxRecDepth 100000 in
theorem formed_abs0 (t : S27) (l : List S24) (hk : t.f0 = 5) (h : ¬ (t.f3 = 0 ∧ t.f4.length = 1 ∧ nmV t.f1 = true ∧ chkB t.f2 = true)) (A : Option Addr) (c : Nat) (B : Option Addr) (d : Nat) (E : Option Addr) (n ce : Nat) (w : World) (ok : Nat → Prop) (hX : RdF w ok t A c B d) (hn : okS t.f1) (hf : fit t.f2) :
    Calls Try.prog 168 #[.agg #[.int .u8 t.f0, .string t.f1, .bool t.f2.f0, .string t.f2.f1, .slice A t.f2.f2.length c, .int .i64 t.f3, .slice B t.f4.length d], .slice E n ce] w (FormPost w ok (formM t l)) := by
  have hS0 := FmS.start w t A c B d
  have BR := (two_new w (.cells #[.int .u8 t.f0, .string t.f1, .bool t.f2.f0, .string t.f2.f1, .slice A t.f2.f2.length c, .int .i64 t.f3, .slice B t.f4.length d] 27) (.cells #[.bool false, .string ⟨#[]⟩, .slice none 0 0] 24)).2.2
  have hpl := fun W (hw : Below w.heap.size w W) => terms_plain.calls t.f0 t.f1 t.f2.f0 t.f2.f1 A c t.f2.f2 t.f3 B d t.f4 true true false _ W (hX.at hw).1.1 hX.1.2 (hX.at hw).2.1 hX.2.2 (plain_ttf t)
  have hnm := fun W => named_calls t.f1 hn W
  have hck := fun W (hw : Below w.heap.size w W) => tcheck_calls t.f2 A c W hf (hX.at hw).1.1 hX.1.2
  have hF := formM_abs t l hk
  have q1 : (t.f0 == 1) = false := by rw [hk]; rfl
  have q2 : (t.f0 == 2) = false := by rw [hk]; rfl
  have q3 : (t.f0 == 3) = false := by rw [hk]; rfl
  have q4 : (t.f0 == 4) = false := by rw [hk]; rfl
  have q5 : (t.f0 == 5) = true := by rw [hk]; rfl
  obtain ⟨x0, x1, x2, x3, x4, x5, x6, _, hb⟩ := id hS0
  clear hk hX
  cases h3 : (t.f3 == 0) with
  | false =>
    rw [h3] at hpl
    have HF := Aside0.mk (show formM t l = none by rw [hF, h3]; simp)
    clear hF h hnm hck
    go_enter Try.func168, Try.ntmps168
    go_wp2_with (first
      | (go_at_call 209; (with_reducible refine (hpl _ hS0.below).mono ?_); rintro e w3 ⟨rfl, hb3⟩; have hN := hS0.step hb3; have BR3 := blk_below BR hb3; obtain ⟨x0, x1, x2, x3, x4, x5, x6, _, hb⟩ := id hN; obtain ⟨s0, s1, s2, s3, s4, s5, s6⟩ := box3s BR3))
    refine bodyPost_ret (results_ct rfl _ _ (w.heap.size + 1) 24 #[.bool false, .string ⟨#[]⟩, .slice none 0 0] (0, 0) _ rfl (set3 BR3) Try.underlying24 rfl (by kernel_rfl)) rfl ?_
    exact ⟨_, zT, by rw [HF.out]; rfl, TrF.leaf _ _ _ _, (fun v hv => by rw [HF.out] at hv; cases hv), ((hb.setCell (by simp) _).setCell (by simp) _).setCell (by simp) _⟩
  | true =>
    rw [h3] at hpl
    have h3' : t.f3 = 0 := by simpa using h3
    by_cases h4 : t.f4.length = 1
    · have r1 : ((t.f4.length : Int) != 1) = false := bne_eq_false_iff_eq.mpr (by omega)
      have r2 : ((t.f4.length : Int) == 1) = true := beq_iff_eq.mpr (by omega)
      have r3 : decide (t.f4.length = 1) = true := decide_eq_true h4
      cases hnv : nmV t.f1 with
      | false =>
        rw [hnv] at hnm
        have HF := Aside0.mk (show formM t l = none by rw [hF, hnv]; simp)
        clear hF h hck h3 h3' h4
        go_enter Try.func168, Try.ntmps168
        go_wp2_with (first
          | (go_at_call 178; (with_reducible refine (hnm _).mono ?_); rintro e w4 ⟨rfl, hb4⟩; have hN := hN.step hb4; have BR3 := blk_below BR3 hb4; obtain ⟨x0, x1, x2, x3, x4, x5, x6, _, hb⟩ := id hN; obtain ⟨s0, s1, s2, s3, s4, s5, s6⟩ := box3s BR3)
          | (go_at_call 209; (with_reducible refine (hpl _ hS0.below).mono ?_); rintro e w3 ⟨rfl, hb3⟩; have hN := hS0.step hb3; have BR3 := blk_below BR hb3; obtain ⟨x0, x1, x2, x3, x4, x5, x6, _, hb⟩ := id hN; obtain ⟨s0, s1, s2, s3, s4, s5, s6⟩ := box3s BR3))
        refine bodyPost_ret (results_ct rfl _ _ (w.heap.size + 1) 24 #[.bool false, .string ⟨#[]⟩, .slice none 0 0] (0, 0) _ rfl (set3 BR3) Try.underlying24 rfl (by kernel_rfl)) rfl ?_
        exact ⟨_, zT, by rw [HF.out]; rfl, TrF.leaf _ _ _ _, (fun v hv => by rw [HF.out] at hv; cases hv), ((hb.setCell (by simp) _).setCell (by simp) _).setCell (by simp) _⟩
      | true =>
        rw [hnv] at hnm
        have hcb : chkB t.f2 = false := by
          rw [← Bool.not_eq_true]
          exact fun hc => h ⟨h3', h4, hnv, hc⟩
        rw [hcb] at hck
        have HF := Aside0.mk (show formM t l = none by rw [hF, hcb]; simp)
        clear hF h h3 h3' h4
        go_enter Try.func168, Try.ntmps168
        go_wp2_with (first
          | (go_at_call 113; (with_reducible refine (hck _ hN.below).mono ?_); rintro e w5 ⟨rfl, hb5⟩; have hN := hN.step hb5; have BR3 := blk_below BR3 hb5; obtain ⟨x0, x1, x2, x3, x4, x5, x6, _, hb⟩ := id hN; obtain ⟨s0, s1, s2, s3, s4, s5, s6⟩ := box3s BR3)
          | (go_at_call 178; (with_reducible refine (hnm _).mono ?_); rintro e w4 ⟨rfl, hb4⟩; have hN := hN.step hb4; have BR3 := blk_below BR3 hb4; obtain ⟨x0, x1, x2, x3, x4, x5, x6, _, hb⟩ := id hN; obtain ⟨s0, s1, s2, s3, s4, s5, s6⟩ := box3s BR3)
          | (go_at_call 209; (with_reducible refine (hpl _ hS0.below).mono ?_); rintro e w3 ⟨rfl, hb3⟩; have hN := hS0.step hb3; have BR3 := blk_below BR hb3; obtain ⟨x0, x1, x2, x3, x4, x5, x6, _, hb⟩ := id hN; obtain ⟨s0, s1, s2, s3, s4, s5, s6⟩ := box3s BR3))
        refine bodyPost_ret (results_ct rfl _ _ (w.heap.size + 1) 24 #[.bool false, .string ⟨#[]⟩, .slice none 0 0] (0, 0) _ rfl (set3 BR3) Try.underlying24 rfl (by kernel_rfl)) rfl ?_
        exact ⟨_, zT, by rw [HF.out]; rfl, TrF.leaf _ _ _ _, (fun v hv => by rw [HF.out] at hv; cases hv), ((hb.setCell (by simp) _).setCell (by simp) _).setCell (by simp) _⟩
    · have r1 : ((t.f4.length : Int) != 1) = true := bne_iff_ne.mpr (by omega)
      have r2 : ((t.f4.length : Int) == 1) = false := beq_eq_false_iff_ne.mpr (by omega)
      have r3 : decide (t.f4.length = 1) = false := decide_eq_false h4
      have HF := Aside0.mk (show formM t l = none by rw [hF]; (split; exact formB_len (by simpa using h4); rfl))
      clear hF h hnm hck h3 h3' h4
      go_enter Try.func168, Try.ntmps168
      go_wp2_with (first
        | (go_at_call 209; (with_reducible refine (hpl _ hS0.below).mono ?_); rintro e w3 ⟨rfl, hb3⟩; have hN := hS0.step hb3; have BR3 := blk_below BR hb3; obtain ⟨x0, x1, x2, x3, x4, x5, x6, _, hb⟩ := id hN; obtain ⟨s0, s1, s2, s3, s4, s5, s6⟩ := box3s BR3))
      refine bodyPost_ret (results_ct rfl _ _ (w.heap.size + 1) 24 #[.bool false, .string ⟨#[]⟩, .slice none 0 0] (0, 0) _ rfl (set3 BR3) Try.underlying24 rfl (by kernel_rfl)) rfl ?_
      exact ⟨_, zT, by rw [HF.out]; rfl, TrF.leaf _ _ _ _, (fun v hv => by rw [HF.out] at hv; cases hv), ((hb.setCell (by simp) _).setCell (by simp) _).setCell (by simp) _⟩
end Go.Proofs.Ytecplbgdalchdaa.Q
/- Proved here: what abstracting and opening keep of the sizes; a row of one term. Conditions: those that each theorem names. -/
namespace Go.Proofs.Ytecplbgdalchdaa.Q
open Go.RowKit Go.Shelf Go.Proofs.YtecplbgdalchdaaW.PrintWords Go.Proofs.YtecplbgdalchdaaW.PrintMore
set_option linter.unusedVariables false
set_option linter.unusedSimpArgs false

abbrev FitN (x : S27) : Prop := okS x.f1 ∧ fit x.f2 ∧ szT x.f2 ≤ 1000000 ∧ -9223372036854775808 ≤ x.f3 ∧ x.f3 ≤ 9223372036854775807
theorem fit_zT : fit zT := ⟨by simp [zT, szT, szL], by simp only [zT, allT, allL]; exact ⟨by unfold okS; decide, trivial⟩⟩
theorem szML_map_le (f : S27 → S27) : ∀ l : List S27, (∀ x, x ∈ l → szM (f x) ≤ szM x) → szML (l.map f) ≤ szML l
  | [], _ => Nat.le_refl _
  | a :: l, h => by
    simp only [List.map_cons, szML]
    have h1 := h a (by simp)
    have h2 := szML_map_le f l (fun x hx => h x (by simp [hx]))
    omega
theorem fitN_bound (d : Int) (h0 : 0 ≤ d) (h1 : d ≤ 1000000000) : FitN ⟨3, noN, zT, d, []⟩ := ⟨show okS noN by unfold okS; decide, fit_zT, by simp [zT, szT, szL], by show _ ≤ d; omega, by show d ≤ _; omega⟩
theorem bind_fit (v t : S27) : ∀ d : Int, 0 ≤ d → d + szM t ≤ 1000000000 → allM FitN t → allM FitN (bindM v d t) ∧ szM (bindM v d t) ≤ szM t := by
  induction t using M_ind with
  | _ t ih =>
  intro d h0 h1 hf
  have hp := szM_pos t
  rw [bindM_eq]
  split
  · exact ⟨allM_mk (fitN_bound d h0 (by omega)) (fun x hx => by cases hx), by rw [szM_eq]; simp only [szML]; omega⟩
  · have hd : 0 ≤ deeper t.f0 d ∧ deeper t.f0 d ≤ d + 1 := by unfold deeper; split <;> omega
    have hk := fun x (hx : x ∈ t.f4) => ih x hx (deeper t.f0 d) hd.1 (by have := szM_sub hx; omega) (allM_sub hf hx)
    refine ⟨allM_mk (show FitN t from allM_top hf) (fun x hx => ?_), ?_⟩
    · obtain ⟨y, hy, rfl⟩ := List.mem_map.1 hx
      exact (hk y hy).1
    · rw [szM_eq, szM_eq t]
      have := szML_map_le (bindM v (deeper t.f0 d)) t.f4 (fun x hx => (hk x hx).2)
      dsimp only
      omega
theorem plug_fit (v t : S27) (hv : v.f4 = []) (hfv : FitN v) : ∀ d : Int, allM FitN t → allM FitN (plugM v d t) ∧ szM (plugM v d t) ≤ szM t := by
  induction t using M_ind with
  | _ t ih =>
  intro d hf
  have hp := szM_pos t
  rw [plugM_eq]
  split
  · exact ⟨allM_mk hfv (fun x hx => by rw [hv] at hx; cases hx), by rw [szM_eq, hv]; simp only [szML]; omega⟩
  · have hk := fun x (hx : x ∈ t.f4) => ih x hx (deeper t.f0 d) (allM_sub hf hx)
    refine ⟨allM_mk (show FitN t from allM_top hf) (fun x hx => ?_), ?_⟩
    · obtain ⟨y, hy, rfl⟩ := List.mem_map.1 hx
      exact (hk y hy).1
    · rw [szM_eq, szM_eq t]
      have := szML_map_le (plugM v (deeper t.f0 d)) t.f4 (fun x hx => (hk x hx).2)
      dsimp only
      omega
theorem lam_fit {v t : S27} (hv : fitM v) (ht : fitM t) (hs : szM t ≤ 999999) : fitM (lamM v t) := by
  obtain ⟨h1, h2⟩ := bind_fit v t 0 (by omega) (by have := ht.2; omega) ht.1
  have hn := allM_top hv.1
  refine ⟨allM_mk ⟨hn.1, hn.2.1, hn.2.2.1, by show _ ≤ (0 : Int); omega, by show (0 : Int) ≤ _; omega⟩ (fun x hx => ?_), ?_⟩
  · have hx' : x = bindM v 0 t := by simpa [lamM] using hx
    rw [hx']
    exact h1
  · rw [szM_eq]
    simp only [lamM, szML]
    omega
/-- A row of one term. -/
theorem row_oneM {w : World} {g : Nat} {y : S27} {A B : Option Addr} {c d : Nat} (h : w.heap[g]? = some (.cells #[.int .u8 y.f0, .string y.f1, .bool y.f2.f0, .string y.f2.f1, .slice A y.f2.f2.length c, .int .i64 y.f3, .slice B y.f4.length d] 27 (0, 0))) (hy : RdM w y A c B d) : k27.C w (some ⟨g, 0, none⟩) [y].length [y] := by
  obtain ⟨h0, h1, h2, h3, h4, h5, h6⟩ := box7 h
  refine ⟨rfl, by simp, fun _ => ⟨_, rfl, fun j p hp => ?_⟩⟩
  have hj : j = 0 := by
    have := (List.getElem?_eq_some_iff.1 hp).1
    simpa using this
  subst hj
  obtain rfl : y = p := by simpa using hp
  refine ⟨[.int .u8 y.f0, .string y.f1, .bool y.f2.f0, .string y.f2.f1, .slice A y.f2.f2.length c, .int .i64 y.f3, .slice B y.f4.length d], rfl, k27_mk w y hy.1.2 hy.1.1 hy.2.2 hy.2.1, fun i u hu => ?_⟩
  rcases i with _ | _ | _ | _ | _ | _ | _ | i
  · cases hu; exact h0
  · cases hu; exact h1
  · cases hu; exact h2
  · cases hu; exact h3
  · cases hu; exact h4
  · cases hu; exact h5
  · cases hu; exact h6
  · simp at hu
end Go.Proofs.Ytecplbgdalchdaa.Q
