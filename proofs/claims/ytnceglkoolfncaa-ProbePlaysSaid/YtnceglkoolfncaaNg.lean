/- Relist: Diff, Name. -/
import Derived.Test.YtnceglkoolfncaaNf
set_option linter.unusedSimpArgs false
set_option linter.unusedVariables false
namespace Go.Proofs.Ytnceglkoolfncaa.Rl
open Go.RowKit Go.Pv Go.Proofs.Ytnceglkoolfncaa.Po Go.Proofs.YtnceglkoolfncaaW.PrintWords Go.Proofs.YtnceglkoolfncaaW.PrintLast

/-- What is told of a sandbox, whichever it is. -/
theorem box_any {u w : World} {X : Nat → Prop} {pf : Nat} {L : List Ch} (h : FI u X pf L w) (hl : L.length + 700 ≤ 900000) {pa pb : Value} {oa ob : Option BV} (ha : Pt PRelistNone.k108 u pa oa) (hb : Pt PRelistNone.k108 u pb ob)
    (hal : ∀ a, oa = some a → a.f3.length ≤ 100) (hbl : ∀ a, ob = some a → a.f3.length ≤ 100) (hn : oa = none → ob = none → False) :
    Calls Try.prog 115 #[.pointer (some ⟨pf, 0, none⟩), pa, pb] w fun e w' => e = .returned (.tuple #[]) ∧ FI u X pf (L ++ oneB oa ob) w' ∧ KX X w w' := by
  cases ob with
  | none =>
    have hb : pb = .pointer none := hb
    subst hb
    cases oa with
    | none => exact (hn rfl rfl).elim
    | some a => exact box_gone h (by omega) ha
  | some c =>
    cases oa with
    | none =>
      have ha : pa = .pointer none := ha
      subst ha
      exact box_new h hl hb (hbl c rfl)
    | some a => exact box_both h hl ha (hal a rfl) hb (hbl c rfl)

set_option maxRecDepth 10000 in
set_option maxHeartbeats 1000000 in
theorem outer_any {u w w1 : World} {X : Nat → Prop} {pf bf : Nat} {L : List Ch} (h : St u X pf w1 L w) (hl : L.length + 700 ≤ 900000) (hbx : w1.heap[bf]? = some (.cells #[.pointer (some ⟨pf, 0, none⟩)] 195 (0, 0))) (h1 : X bf)
    {pa pb : Value} {oa ob : Option BV} (ha : Pt PRelistNone.k108 u pa oa) (hb : Pt PRelistNone.k108 u pb ob) (hal : ∀ a, oa = some a → a.f3.length ≤ 100) (hbl : ∀ a, ob = some a → a.f3.length ≤ 100) (hn : oa = none → ob = none → False) :
    Calls Try.prog 114 #[pa, pb, .pointer (some ⟨bf, 0, none⟩)] w fun e w' => e = .returned (.tuple #[]) ∧ St u X pf w1 (L ++ oneB oa ob) w' := by
  have c1 : w.cell? ⟨bf, 0, none⟩ = some (.pointer (some ⟨pf, 0, none⟩)) := by rw [cell_of_row w _ 0 _ _ _ ((h.kx bf h1).trans hbx)]; rfl
  have HC := hid (box_any h.fi hl ha hb hal hbl hn)
  have H2 := hid h
  clear hbx h ha hb h1 hal hbl
  go_enter Try.func114, Try.ntmps114
  go_wp2_with (go_at_call 115
               go_must (with_reducible refine HC.out.mono ?_)
               rintro e w2 ⟨rfl, h3, h4⟩
               have H3 := hid h3
               have H4 := hid h4
               clear h3 h4)
  go_end0
  exact ⟨rfl, H3.out, H2.out.kx.trans H4.out⟩

/-- Sandboxes that are not too many, nor their containers. -/
def Few (l : List BV) : Prop := l.length ≤ 100 ∧ ∀ b ∈ l, b.f3.length ≤ 100

set_option maxRecDepth 10000 in
set_option maxHeartbeats 1000000 in
theorem diff_any {w : World} {va vb : Value} {la lb : List BV} (ha : Rz PRelistNone.k108 w va la) (hb : Rz PRelistNone.k108 w vb lb) (fa : Few la) (fb : Few lb) :
    Calls Try.prog 56 #[va, vb] w fun e w' => ∃ v, e = .returned v ∧ SlOf w' 104 4 encCh v (diffL la lb) ∧ Below w.heap.size w w' := by
  obtain ⟨W2, hW2⟩ : ∃ W2, W2 = (w.alloc (.cells #[.slice none 0 0] 197)).alloc (.cells #[.pointer (some ⟨w.heap.size, 0, none⟩)] 195) := ⟨_, rfl⟩
  have k2 : Below w.heap.size w W2 := by rw [hW2]; exact ((Below.refl _ w).alloc (Nat.le_refl _) _).alloc (by simp) _
  have n0 : W2.heap[w.heap.size]? = some (.cells #[.slice none 0 0] 197 (0, 0)) := by rw [hW2, Below.heap_alloc _ _ _ (by simp)]; exact heap_at w _ _ rfl
  have n1 : W2.heap[w.heap.size + 1]? = some (.cells #[.pointer (some ⟨w.heap.size, 0, none⟩)] 195 (0, 0)) := by rw [hW2]; exact heap_at _ _ _ (by simp)
  have hfi : FI w (fun k => k = w.heap.size + 1) w.heap.size [] W2 := ⟨⟨_, n0, SlRow.nil _ _ _, by simp [Value.ownBlock]⟩, Nat.le_refl _, by omega, k2, by rintro k rfl; exact (Array.getElem?_eq_some_iff.1 n1).1⟩
  have hm := mergeB (w := W2) ha hb (.pointer (some ⟨w.heap.size + 1, 0, none⟩)) oneB (fun L W => St w (fun k => k = w.heap.size + 1) w.heap.size W2 L W) 700 [] (fun _ _ _ h hb => h.below hb) (fun _ _ h => h.fi.low)
    (fun oa ob h1 h2 => oneB_len oa ob (fun a e => fa.2 a (h1 a e)) (fun a e => fb.2 a (h2 a e)))
    (fun L W pa pb oa ob hi hl ha hb h1 h2 hn => outer_any hi hl n1 rfl ha hb (fun a e => fa.2 a (h1 a e)) (fun a e => fb.2 a (h2 a e)) hn)
    (by have := fa.1; have := fb.1; simp; omega) ⟨hfi, KX.refl _ _⟩
  rw [List.nil_append] at hm
  change Calls _ _ _ _ (fun e w' => _ ∧ St w _ _ W2 (diffL la lb) w') at hm
  have HM := hid hm
  have HW2 := hid hW2
  have N1 := hid n1
  clear hm hfi n0 n1 k2 hW2 ha hb fa fb
  go_enter Try.func56, Try.ntmps56
  go_upto_region 2 with fail
  rw [← HW2.out]
  go_wp2_with (go_at_call 112
               go_must (with_reducible refine HM.out.mono ?_)
               rintro e w3 ⟨rfl, h3⟩
               obtain ⟨v, q1, q2, q3⟩ := h3.fi.box
               have c1 : w3.cell? ⟨w.heap.size + 1, 0, none⟩ = some (.pointer (some ⟨w.heap.size, 0, none⟩)) := by rw [cell_of_row w3 _ 0 _ _ _ ((h3.kx _ rfl).trans N1.out)]; rfl
               have c2 : w3.cell? ⟨w.heap.size, 0, none⟩ = some v := by rw [cell_of_row w3 _ 0 _ _ _ q1]; rfl
               have Q2 := hid q2
               have HB := hid h3.fi.low
               clear h3 q1 q2 q3)
  go_ret
  exact ⟨v, rfl, Q2.out, HB.out⟩

set_option maxRecDepth 10000 in
theorem name7 (w : World) : Calls Try.prog 110 #[.int .i64 7] w fun e w' => e = .returned (.string ⟨#[100, 105, 101]⟩) ∧ Below w.heap.size w w' := by
  go_enter Try.func110, Try.ntmps110
  go_wp2
  go_ret
  exact ⟨rfl, (Below.refl _ w).alloc (Nat.le_refl _) _⟩
end Go.Proofs.Ytnceglkoolfncaa.Rl
