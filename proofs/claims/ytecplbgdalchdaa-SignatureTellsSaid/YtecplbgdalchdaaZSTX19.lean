/- Proved here: parts of the proof of a given statement (HRowSignatureTells): contracts of the functions that it reaches, what they answer, and in the last text the statement itself. Conditions: those that each theorem names. -/
import Derived.Test.YtecplbgdalchdaaZSTX17
import Derived.Test.YtecplbgdalchdaaZSTX18
import Derived.Test.YtecplbgdalchdaaZSTX13
import Derived.Test.YtecplbgdalchdaaZSTX15
import Derived.Test.YtecplbgdalchdaaZSTX7
/- Proved here: the initial signature, the program's and the reference's. Conditions: those that each theorem names. -/
namespace Go.Proofs.Ytecplbgdalchdaa.Q
open Go.RowKit Go.Shelf Go.Proofs.YtecplbgdalchdaaW.PrintWords Go.Proofs.YtecplbgdalchdaaW.PrintMore
set_option linter.unusedVariables false
set_option linter.unusedSimpArgs false
attribute [local go_sem] Oper.semAt_some

def iaT : S24 := ⟨true, ⟨#[39, 97]⟩, []⟩
def ieqT : S24 := ⟨false, funN, [iaT, ⟨false, funN, [iaT, ⟨false, boolN, []⟩]⟩]⟩
def iniO : List S106 := [⟨boolN, 0⟩, ⟨funN, 2⟩]
def iniC : List S108 := [⟨⟨#[61]⟩, ieqT⟩]
theorem siginit_f : signature_Initial.f = some (iniO, iniC) := by
  simp [signature_Initial.f, types_Bool.f, types_Fun.f, types_Twin.f, szL, szT]
  exact ⟨rfl, rfl⟩
theorem equals_ev : Ev (fun k => sequentref02_Equals.f k iaT.f0 iaT.f1 iaT.f2) (2, ⟨#[61]⟩, ieqT.f0, ieqT.f1, ieqT.f2, 0, []) := by
  simp only [sequentref02_Equals.f, sequentref01_Bool.f, Option.bind_some]
  refine Ev.bind (reffun_ev iaT ⟨false, boolN, []⟩ (by decide) (by decide)) (Ev.bind (reffun_ev iaT ⟨false, funN, [iaT, ⟨false, boolN, []⟩]⟩ (by decide) (by decide)) ?_)
  exact Ev.pure _
theorem lit_TO2 {W : World} {g : Nat} {a b : ByteArray} {i j : Int} (hB : W.heap[g]? = some (.cells #[.string a, .int .i64 i, .string b, .int .i64 j] 106 (0, 0))) : k106.C W (some ⟨g, 0, none⟩) ([⟨a, i⟩, ⟨b, j⟩] : List S106).length [⟨a, i⟩, ⟨b, j⟩] :=
  ⟨rfl, by simp, fun _ => ⟨_, rfl, fun n p hn => by
    match n, hn with
    | 0, hn =>
      simp only [List.getElem?_cons_zero, Option.some.injEq] at hn
      subst hn
      refine ⟨[.string a, .int .i64 i], rfl, k106_mk _ ⟨a, i⟩, fun m u hu => ?_⟩
      match m, hu with
      | 0, hu => exact (blk_cell hB 0).trans hu
      | 1, hu => exact (blk_cell hB 1).trans hu
      | m + 2, hu => simp at hu
    | 1, hn =>
      simp only [List.getElem?_cons_succ, List.getElem?_cons_zero, Option.some.injEq] at hn
      subst hn
      refine ⟨[.string b, .int .i64 j], rfl, k106_mk _ ⟨b, j⟩, fun m u hu => ?_⟩
      match m, hu with
      | 0, hu => exact (blk_cell hB 2).trans hu
      | 1, hu => exact (blk_cell hB 3).trans hu
      | m + 2, hu => simp at hu
    | n + 2, hn => simp at hn⟩⟩
theorem lit_CO1 {W : World} {g : Nat} {s : ByteArray} {t : S24} {A : Option Addr} {c : Nat} (hB : W.heap[g]? = some (.cells #[.string s, .bool t.f0, .string t.f1, .slice A t.f2.length c] 108 (0, 0))) (hl : t.f2.length ≤ c) (hC : k24.C W A t.f2.length t.f2) : k108.C W (some ⟨g, 0, none⟩) ([⟨s, t⟩] : List S108).length [⟨s, t⟩] :=
  ⟨rfl, by simp, fun _ => ⟨_, rfl, fun n p hn => by
    match n, hn with
    | 0, hn =>
      simp only [List.getElem?_cons_zero, Option.some.injEq] at hn
      subst hn
      refine ⟨[.string s, .bool t.f0, .string t.f1, .slice A t.f2.length c], rfl, k108_mk _ ⟨s, t⟩ hl hC, fun m u hu => ?_⟩
      match m, hu with
      | 0, hu => exact (blk_cell hB 0).trans hu
      | 1, hu => exact (blk_cell hB 1).trans hu
      | 2, hu => exact (blk_cell hB 2).trans hu
      | 3, hu => exact (blk_cell hB 3).trans hu
      | m + 4, hu => simp at hu
    | n + 1, hn => simp at hn⟩⟩
def IniPost (w : World) (e : Ending) (w' : World) : Prop := ∃ A c B d, e = .returned (.agg #[.slice A iniO.length c, .slice B iniC.length d]) ∧ iniO.length ≤ c ∧ k106.C w' A iniO.length iniO ∧ iniC.length ≤ d ∧ k108.C w' B iniC.length iniC ∧ Below w.heap.size w w'
theorem siginit_calls (w : World) : Calls Try.prog 82 #[] w (IniPost w) := by
  refine (signature_Initial.calls iniO iniC w siginit_f).mono ?_
  rintro e w' ⟨v0, v1, rfl, h0, h1, hb⟩
  obtain ⟨A, c, rfl, hc, hC⟩ := Kd.R_reads h0
  obtain ⟨B, d, rfl, hd, hD⟩ := Kd.N_reads h1
  exact ⟨A, c, B, d, rfl, hc, hC, hd, hD, hb⟩
set_option maxHeartbeats 2000000 in
set_option maxRecDepth 100000 in
theorem refinit_calls (w : World) : Calls Try.prog 83 #[] w (IniPost w) := by
  obtain ⟨k, hk⟩ := equals_ev.at
  have hb0 := (two_new w (.cells #[.slice none 0 0, .slice none 0 0] 94) (.cells #[.bool true, .string ⟨#[39, 97]⟩, .slice none 0 0] 24)).1
  have BR := (two_new w (.cells #[.slice none 0 0, .slice none 0 0] 94) (.cells #[.bool true, .string ⟨#[39, 97]⟩, .slice none 0 0] 24)).2.1
  have BA := (two_new w (.cells #[.slice none 0 0, .slice none 0 0] 94) (.cells #[.bool true, .string ⟨#[39, 97]⟩, .slice none 0 0] 24)).2.2
  obtain ⟨r0, r1, r2, r3⟩ := box2k BR
  obtain ⟨a0, a1, a2, _, _, _, _⟩ := box3s BA
  have hcall := fun W => sequentref02_Equals.calls k iaT.f0 iaT.f1 none 0 iaT.f2 _ _ _ _ _ _ _ W (nilC _ _) (Nat.le_refl _) hk
  have hfd : ∀ (x0 x1 x2 x3 x4 x5 x6 : Value) (W : World), (Instr.field 27 (.agg #[x0, x1, x2, x3, x4, x5, x6]) 2).run Try.prog W = .ok (.agg #[x2, x3, x4]) W := fun _ _ _ _ _ _ _ _ => by kernel_rfl
  go_enter Try.func83, Try.ntmps83
  go_wp2_with (go_at_call 155; refine (hcall _).mono ?_; rintro e W2 ⟨v4, v6, rfl, hN4, _, hb2⟩; obtain ⟨A4, c4, hv4, hl4, hC4⟩ := Kd.N_reads hN4; subst hv4; have BR2 := blk_alloc (blk_below (blk_alloc BR _) hb2) (.cells #[.string ⟨#[61]⟩, .bool ieqT.f0, .string ieqT.f1, .slice A4 ieqT.f2.length c4] 108); obtain ⟨s0, s1, s2, s3⟩ := box2k BR2)
  have hb1 := below_step hb0 (below_one (w := (w.alloc (.cells #[.slice none 0 0, .slice none 0 0] 94)).alloc (.cells #[.bool true, .string ⟨#[39, 97]⟩, .slice none 0 0] 24)) (.cells #[.string boolN, .int .i64 0, .string funN, .int .i64 2] 106))
  have hb3 := below_step hb2 (below_one (w := W2) (.cells #[.string ⟨#[61]⟩, .bool ieqT.f0, .string ieqT.f1, .slice A4 ieqT.f2.length c4] 108))
  have hz1 := hb1.size
  have hz2 := hb2.size
  refine bodyPost_ret (results_cell_row rfl _ _ w.heap.size 94 #[.slice (some ⟨w.heap.size + 1 + 1, 0, none⟩) 2 2, .slice (some ⟨W2.heap.size, 0, none⟩) 1 1] (0, 0) _ rfl (set2k BR2) Try.underlying94 rfl (by kernel_rfl)) rfl ?_
  have hz0 : ((w.alloc (.cells #[.slice none 0 0, .slice none 0 0] 94)).alloc (.cells #[.bool true, .string ⟨#[39, 97]⟩, .slice none 0 0] 24)).heap.size = w.heap.size + 2 := by simp
  have BO := blk_new ((w.alloc (.cells #[.slice none 0 0, .slice none 0 0] 94)).alloc (.cells #[.bool true, .string ⟨#[39, 97]⟩, .slice none 0 0] 24)) (.cells #[.string boolN, .int .i64 0, .string funN, .int .i64 2] 106)
  rw [hz0] at BO
  have BO2 := blk_far (blk_far (blk_below BO hb3) (p := ⟨w.heap.size, 0, none⟩) (by simp) (.slice (some ⟨w.heap.size + 1 + 1, 0, none⟩) 2 2)) (p := ⟨w.heap.size, 1, none⟩) (by simp) (.slice (some ⟨W2.heap.size, 0, none⟩) 1 1)
  have hne : W2.heap.size ≠ w.heap.size := by have := blk_lt (blk_below BO hb2); omega
  have BC2 := blk_far (blk_far (blk_new W2 (.cells #[.string ⟨#[61]⟩, .bool ieqT.f0, .string ieqT.f1, .slice A4 ieqT.f2.length c4] 108)) (p := ⟨w.heap.size, 0, none⟩) hne (.slice (some ⟨w.heap.size + 1 + 1, 0, none⟩) 2 2)) (p := ⟨w.heap.size, 1, none⟩) hne (.slice (some ⟨W2.heap.size, 0, none⟩) 1 1)
  have hN5 := Kd.N_far (Kd.N_far (Kd.N_below hN4 (below_one (w := W2) (.cells #[.string ⟨#[61]⟩, .bool ieqT.f0, .string ieqT.f1, .slice A4 ieqT.f2.length c4] 108))) (p := ⟨w.heap.size, 0, none⟩) (fun k hk => by have := hk.1; simp at this; show k ≠ w.heap.size; omega) (.slice (some ⟨w.heap.size + 1 + 1, 0, none⟩) 2 2)) (p := ⟨w.heap.size, 1, none⟩) (fun k hk => by have := hk.1; simp at this; show k ≠ w.heap.size; omega) (.slice (some ⟨W2.heap.size, 0, none⟩) 1 1)
  obtain ⟨A5, c5, hv5, hl5, hC5⟩ := Kd.N_reads hN5
  injection hv5 with e1 e2 e3
  subst e1 e3
  exact ⟨_, _, _, _, rfl, Nat.le_refl _, lit_TO2 BO2, Nat.le_refl _, lit_CO1 BC2 hl4 hC5, ((below_step hb1 hb3).setCell (p := ⟨w.heap.size, 0, none⟩) (by simp) _).setCell (p := ⟨w.heap.size, 1, none⟩) (by simp) _⟩
end Go.Proofs.Ytecplbgdalchdaa.Q
/- Proved here: rows of a signature's declarations as raw cells. Conditions: those that each theorem names. -/
namespace Go.Proofs.Ytecplbgdalchdaa.Q
open Go.RowKit Go.Shelf Go.Proofs.YtecplbgdalchdaaW.PrintWords Go.Proofs.YtecplbgdalchdaaW.PrintMore
set_option linter.unusedVariables false
set_option linter.unusedSimpArgs false

/-- A row whose elements hold a string at cell o of m: its block is an own one. -/
def StrRow (w : World) (base o m : Nat) (A : Option Addr) (n : Nat) : Prop := 0 < n → ∃ (g : Nat) (cur : Array Value) (t : TypeId), A = some ⟨g, 0, none⟩ ∧ base ≤ g ∧ w.heap[g]? = some (.cells cur t (0, 0)) ∧ ∀ j, j < n → ∃ s, cur[j * m + o]? = some (.string s)
theorem StrRow.lower {w : World} {base base' o m n : Nat} {A : Option Addr} (h : StrRow w base o m A n) (hb : base' ≤ base) : StrRow w base' o m A n := fun h0 => by
  obtain ⟨g, cur, t, h1, h2, h3, h4⟩ := h h0
  exact ⟨g, cur, t, h1, by omega, h3, h4⟩
theorem StrRow.later {w w' : World} {base o m n : Nat} {A : Option Addr} (h : StrRow w base o m A n) (hb : Below w.heap.size w w') : StrRow w' base o m A n := fun h0 => by
  obtain ⟨g, cur, t, h1, h2, h3, h4⟩ := h h0
  exact ⟨g, cur, t, h1, h2, blk_below h3 hb, h4⟩
theorem StrRow.str {w w' : World} {base o m n : Nat} {A : Option Addr} {ok : Nat → Prop} (h : StrRow w base o m A n) (hs : StrStep ok w w') : StrRow w' base o m A n := fun h0 => by
  obtain ⟨g, cur, t, h1, h2, h3, h4⟩ := h h0
  obtain ⟨cur', h5, _, he⟩ := hs.str g cur t _ h3
  refine ⟨g, cur', t, h1, h2, h5, fun j hj => ?_⟩
  obtain ⟨s, hq⟩ := h4 j hj
  rcases he (j * m + o) with e | ⟨_, e⟩
  · exact ⟨s, e.trans hq⟩
  · exact e
theorem strrow_TO {w : World} {base c n : Nat} {ok : Nat → Prop} {A : Option Addr} {l : List S106} (h : Kd.N k106 106 w base ok (.slice A n c) l) : StrRow w base 0 2 A n := fun h0 => by
  have hn := (Kd.N_reads' h).1
  obtain ⟨g, cap, he, hg, _, cur, hb⟩ := Kd.N_form h (by omega)
  injection he with e1 e2 e3
  subst e1
  refine ⟨g, cur, _, rfl, hg, hb, fun j hj => ?_⟩
  obtain ⟨cs, hcl, hK, hcc, _⟩ := Kd.N_elem h z106 (j : Int) (by omega) (by omega)
  obtain rfl := k106_open (Kd.FK_now hK)
  have := hcc 0 _ rfl
  rw [blk_cell hb] at this
  simp only [Int.toNat_natCast, show k106.sz = 2 from rfl] at this
  exact ⟨_, this⟩
theorem strrow_CO {w : World} {base c n : Nat} {ok : Nat → Prop} {A : Option Addr} {l : List S108} (h : Kd.N k108 108 w base ok (.slice A n c) l) : StrRow w base 0 4 A n := fun h0 => by
  have hn := (Kd.N_reads' h).1
  obtain ⟨g, cap, he, hg, _, cur, hb⟩ := Kd.N_form h (by omega)
  injection he with e1 e2 e3
  subst e1
  refine ⟨g, cur, _, rfl, hg, hb, fun j hj => ?_⟩
  obtain ⟨cs, hcl, hK, hcc, _⟩ := Kd.N_elem h z108 (j : Int) (by omega) (by omega)
  obtain ⟨A3, c3, rfl, _, _⟩ := k108_open (Kd.FK_now hK)
  have := hcc 0 _ rfl
  rw [blk_cell hb] at this
  simp only [Int.toNat_natCast, show k108.sz = 4 from rfl] at this
  exact ⟨_, this⟩
theorem strrow_WT {w : World} {base n c : Nat} {ok : Nat → Prop} {A : Option Addr} {l : List S24} (h : WT w ok (.slice A n c) l) (hok : ∀ k, ok k → base ≤ k) : StrRow w base 1 3 A n := fun h0 => by
  cases h with
  | nil => exact absurd h0 (Nat.lt_irrefl _)
  | row g cap cur l vs hn hg hb hl hm hz g0 g1 g2 hr => exact ⟨g, cur, _, rfl, hok g hg, hb, fun j hj => ⟨_, g1 j hj⟩⟩
end Go.Proofs.Ytecplbgdalchdaa.Q
