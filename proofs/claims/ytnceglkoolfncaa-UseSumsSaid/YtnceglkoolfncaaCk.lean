/- Use: the law UseSums. -/
import Derived.Test.YtnceglkoolfncaaCi
set_option linter.unusedSimpArgs false
set_option linter.unusedVariables false
namespace Go.Proofs.Ytnceglkoolfncaa.Us
open Go.RowKit Go.Pv Go.Proofs.Ytnceglkoolfncaa.Po Go.Proofs.YtnceglkoolfncaaW.PrintWords Go.Proofs.YtnceglkoolfncaaW.PrintLast Go.Proofs.Ytnceglkoolfncaa.Pr

/-! ### The plain law -/
theorem bits3 (x : Int) : 0 ≤ bits .and .i64 x 3 ∧ bits .and .i64 x 3 ≤ 3 := by
  have h : bits .and .i64 x 3 = IntKind.i64.wrap ((BitVec.ofInt 64 x &&& BitVec.ofInt 64 3).toNat : Int) := rfl
  have h2 : (BitVec.ofInt 64 x &&& BitVec.ofInt 64 3).toNat ≤ 3 := by
    rw [BitVec.toNat_and]
    exact Nat.le_trans Nat.and_le_right (by decide)
  rw [h, IntWalk.i64_in _ (by omega)]
  omega
/-- Keys that are few. -/
def KyU (al : UL) : Prop := ∀ r ∈ al, (0 ≤ r.1.1 ∧ r.1.1 ≤ 3) ∧ (0 ≤ r.1.2 ∧ r.1.2 ≤ 3)
theorem KyU.filter {al : UL} (h : KyU al) (f : (Int × Int) × US → Bool) : KyU (al.filter f) := fun r hr => h r (List.mem_filter.1 hr).1
theorem KyU.add {al : UL} (h : KyU al) {k : Int × Int} (hk : (0 ≤ k.1 ∧ k.1 ≤ 3) ∧ (0 ≤ k.2 ∧ k.2 ≤ 3)) (r : R3) : KyU (addA k r al) := fun x hx => by
  rcases aset_memU hx with h1 | h1
  · exact h x h1
  · rw [h1]; exact hk
theorem sumR_zeros (al : UL) (ks : List (Int × Int)) : sumR (ks.map (nowOf al)) = sumR ((ks.filter fun k => (aget k al).isSome).map (nowOf al)) := by
  induction ks with
  | nil => rfl
  | cons k ks ih =>
    cases h : aget k al with
    | none => simp only [List.map_cons, sumR, List.filter_cons, h, Option.isSome_none, Bool.false_eq_true, if_false, ih, nowOf, Option.getD_none, z6, zero_add3]
    | some s => simp only [List.map_cons, sumR, List.filter_cons, h, Option.isSome_some, if_true, ih]
theorem aget_isSome {al : UL} (k : Int × Int) : (aget k al).isSome = true ↔ k ∈ al.map (·.1) := by
  constructor
  · intro h
    obtain ⟨s, hs⟩ := Option.isSome_iff_exists.1 h
    exact List.mem_map.2 ⟨_, aget_mem hs, rfl⟩
  · intro h
    obtain ⟨r, hr, rfl⟩ := List.mem_map.1 h
    cases e : aget r.1 al with
    | none => exact absurd rfl (aget_none e r hr)
    | some s => rfl
theorem sum_keys (meant : Int × Int → Bool) {al : UL} (nd : (al.map (·.1)).Nodup) {ks : List (Int × Int)} (hn : ks.Nodup) (h1 : ∀ r ∈ al, meant r.1 = true → r.1 ∈ ks) (h2 : ∀ k ∈ ks, meant k = true) : sumR (ks.map (nowOf al)) = sumM meant al := by
  rw [sumR_zeros, ← sumK_all meant al nd (List.Perm.refl _)]
  unfold sumK
  refine sumR_perm (List.Perm.map _ ?_)
  refine (List.perm_ext_iff_of_nodup (hn.sublist List.filter_sublist) (nd.sublist List.filter_sublist)).2 fun k => ?_
  simp only [List.mem_filter, aget_isSome]
  constructor
  · rintro ⟨a, b⟩
    exact ⟨b, h2 k a⟩
  · rintro ⟨a, b⟩
    obtain ⟨r, hr, rfl⟩ := List.mem_map.1 a
    exact ⟨h1 r hr b, a⟩
def kx (x : Int) : List (Int × Int) := [(x, 0), (x, 1), (x, 2), (x, 3)]
theorem row_sum {al : UL} (nd : (al.map (·.1)).Nodup) (hk : KyU al) (x : Int) : sumR ((kx x).map (nowOf al)) = ofU x al := by
  refine sum_keys _ nd (by simp [kx]) (fun r hr h => ?_) (fun k h => ?_)
  · have := (hk r hr).2
    obtain ⟨⟨a, b⟩, s⟩ := r
    simp only [beq_iff_eq] at h
    simp only at this
    subst h
    have : b = 0 ∨ b = 1 ∨ b = 2 ∨ b = 3 := by omega
    simp only [kx, List.mem_cons, Prod.mk.injEq, true_and, List.not_mem_nil, or_false]
    exact this
  · simp only [kx, List.mem_cons, List.not_mem_nil, or_false] at h
    rcases h with rfl | rfl | rfl | rfl <;> simp
theorem all_sum {al : UL} (nd : (al.map (·.1)).Nodup) (hk : KyU al) : add3 (ofU 0 al) (add3 (ofU 1 al) (add3 (ofU 2 al) (ofU 3 al))) = allU al := by
  rw [← row_sum nd hk 0, ← row_sum nd hk 1, ← row_sum nd hk 2, ← row_sum nd hk 3, ← sumR_append, ← sumR_append, ← sumR_append, ← List.map_append, ← List.map_append, ← List.map_append]
  refine sum_keys _ nd (by decide) (fun r hr _ => ?_) (fun _ _ => rfl)
  have h := hk r hr
  obtain ⟨⟨a, b⟩, s⟩ := r
  simp only at h
  have ha : a = 0 ∨ a = 1 ∨ a = 2 ∨ a = 3 := by omega
  have hb : b = 0 ∨ b = 1 ∨ b = 2 ∨ b = 3 := by omega
  rcases ha with rfl | rfl | rfl | rfl <;> rcases hb with rfl | rfl | rfl | rfl <;> simp [kx]
theorem all_less {al : UL} (nd : (al.map (·.1)).Nodup) (k : Int × Int) : allU al = add3 (nowOf al k) (allU (adel k al)) := by
  unfold allU sumM
  cases h : aget k al with
  | none =>
    have e : adel k al = al := by
      rw [adel_filterU _ _ nd, List.filter_eq_self]
      intro r hr
      have := aget_none h r hr
      simpa using this
    rw [e]
    simp only [nowOf, h, Option.getD_none, z6, zero_add3]
  | some s =>
    have hp : al.Perm ((k, s) :: adel k al) := by
      refine (List.perm_cons_erase (aget_mem h)).trans ?_
      have : ∀ l : UL, (l.map (·.1)).Nodup → (k, s) ∈ l → l.erase (k, s) = adel k l := by
        intro l
        induction l with
        | nil => intro _ h; cases h
        | cons x xs ih =>
          intro hn hm
          simp only [List.map_cons, List.nodup_cons] at hn
          simp only [adel]
          by_cases hx : x.1 = k
          · have : x = (k, s) := by
              rcases List.mem_cons.1 hm with h1 | h1
              · exact h1.symm
              · exact absurd (List.mem_map.2 ⟨_, h1, rfl⟩) (by rw [hx] at hn; exact hn.1)
            subst this
            simp
          · rw [if_neg hx, List.erase_cons_tail (by intro e; exact hx (by rw [beq_iff_eq] at e; rw [e])), ih hn.2 (by
              rcases List.mem_cons.1 hm with h1 | h1
              · exact absurd (by rw [← h1]) hx
              · exact h1)]
      rw [this al nd (aget_mem h)]
    rw [sumR_perm ((hp.filter fun _ => true).map fun r => r.2.1)]
    simp only [List.filter_cons, if_true, List.map_cons, sumR, nowOf, h, Option.getD_some]
theorem sumM_in {al : UL} (h : GoodU al) (hl : al.length ≤ 10000) (meant : Int × Int → Bool) : (0 ≤ (sumM meant al).1 ∧ (sumM meant al).1 ≤ 10995116277760000) ∧ (0 ≤ (sumM meant al).2.1 ∧ (sumM meant al).2.1 ≤ 10995116277760000) ∧ (0 ≤ (sumM meant al).2.2 ∧ (sumM meant al).2.2 ≤ 10995116277760000) := by
  have := sumR_in 10000 ((al.filter fun r => meant r.1).map fun r => r.2.1) (by rw [List.length_map]; exact Nat.le_trans (List.length_filter_le _ _) hl) (fun r hr => by obtain ⟨k, hk, rfl⟩ := List.mem_map.1 hr; exact (h k (List.mem_filter.1 hk).1).1)
  unfold sumM
  omega
/-- The sums of the first containers of a sandbox; of the first sandboxes. -/
def rowS (al : UL) (x : Int) (k : Nat) : R3 := sumR (((kx x).take k).map (nowOf al))
def allS (al : UL) (k : Nat) : R3 := sumR (([0, 1, 2, 3].take k).map fun x => ofU x al)
theorem rowS_in {al : UL} (h : GoodU al) (x : Int) (k : Nat) : (0 ≤ (rowS al x k).1 ∧ (rowS al x k).1 ≤ 4398046511104) ∧ (0 ≤ (rowS al x k).2.1 ∧ (rowS al x k).2.1 ≤ 4398046511104) ∧ (0 ≤ (rowS al x k).2.2 ∧ (rowS al x k).2.2 ≤ 4398046511104) := by
  have := sumR_in 4 (((kx x).take k).map (nowOf al)) (by rw [List.length_map, List.length_take]; simp [kx]; omega) (fun r hr => by obtain ⟨j, _, rfl⟩ := List.mem_map.1 hr; exact nowOf_in h j)
  unfold rowS
  omega
theorem rowS_next (al : UL) (x : Int) (k : Nat) (hk : k < 4) : rowS al x (k + 1) = add3 (rowS al x k) (nowOf al (x, (k : Int))) := by
  have : k = 0 ∨ k = 1 ∨ k = 2 ∨ k = 3 := by omega
  rcases this with rfl | rfl | rfl | rfl <;> simp [rowS, kx, sumR, add3_zero, zero_add3, add3_assoc]
theorem allS_next (al : UL) (k : Nat) (hk : k < 4) : allS al (k + 1) = add3 (allS al k) (ofU (k : Int) al) := by
  have : k = 0 ∨ k = 1 ∨ k = 2 ∨ k = 3 := by omega
  rcases this with rfl | rfl | rfl | rfl <;> simp [allS, sumR, add3_zero, zero_add3, add3_assoc]
theorem rowS_all {al : UL} (nd : (al.map (·.1)).Nodup) (hk : KyU al) (x : Int) : rowS al x 4 = ofU x al := by rw [← row_sum nd hk x]; rfl
theorem allS_all {al : UL} (nd : (al.map (·.1)).Nodup) (hk : KyU al) : allS al 4 = allU al := by
  rw [← all_sum nd hk]
  simp [allS, sumR, add3_zero]
theorem allS_in {al : UL} (h : GoodU al) (hl : al.length ≤ 100) (k : Nat) : (0 ≤ (allS al k).1 ∧ (allS al k).1 ≤ 100000000000000000) ∧ (0 ≤ (allS al k).2.1 ∧ (allS al k).2.1 ≤ 100000000000000000) ∧ (0 ≤ (allS al k).2.2 ∧ (allS al k).2.2 ≤ 100000000000000000) := by
  have hb := fun x => sumM_in h (by omega) (fun k => k.1 == x)
  have h0 := hb 0
  have h1 := hb 1
  have h2 := hb 2
  have h3 := hb 3
  have e : ∀ x, sumM (fun k => k.1 == x) al = ofU x al := fun _ => rfl
  simp only [e] at h0 h1 h2 h3
  have : k = 0 ∨ k = 1 ∨ k = 2 ∨ k = 3 ∨ 4 ≤ k := by omega
  rcases this with rfl | rfl | rfl | rfl | h4
  · simp [allS, sumR]
  · simp only [allS, List.take, List.map_cons, List.map_nil, sumR, add3]; omega
  · simp only [allS, List.take, List.map_cons, List.map_nil, sumR, add3]; omega
  · simp only [allS, List.take, List.map_cons, List.map_nil, sumR, add3]; omega
  · simp only [allS, List.take_of_length_le (show [(0 : Int), 1, 2, 3].length ≤ k from h4), List.map_cons, List.map_nil, sumR, add3]; omega
/-! ### The walk -/
def B145 (V : World) (g : Nat) (r : R3) : Prop := V.heap[g]? = some (.cells #[.int .i64 r.1, .int .i64 r.2.1, .int .i64 r.2.2] 145 (0, 0))
theorem B145.later {V V' : World} {g : Nat} {r : R3} (h : B145 V g r) (hb : Below V.heap.size V V') : B145 V' g r := (hb.block g (Array.getElem?_eq_some_iff.1 h).1).trans h
structure SV (u w : World) (p mb : Nat) (al : UL) (ga : Nat) (a : R3) : Prop where
  uv : UV u w p mb al
  ha : B145 w ga a
  ga_ : u.heap.size ≤ ga
structure SW (u w : World) (p mb : Nat) (al : UL) (ga : Nat) (a : R3) (gs : Nat) (s : R3) : Prop extends SV u w p mb al ga a where
  hs : B145 w gs s
  gs_ : u.heap.size ≤ gs
  ne : gs ≠ ga
section
variable {u w w' : World} {p mb ga gs gw gl : Nat} {al al' : UL} {a s l : R3}
theorem SV.later (h : SV u w p mb al ga a) (hb : Below w.heap.size w w') : SV u w' p mb al ga a := ⟨h.uv.later hb, h.ha.later hb, h.ga_⟩
theorem SW.later (h : SW u w p mb al ga a gs s) (hb : Below w.heap.size w w') : SW u w' p mb al ga a gs s := ⟨h.toSV.later hb, h.hs.later hb, h.gs_, h.ne⟩
theorem UV.setc (h : UV u w p mb al) {g : Nat} {cs : Array Value} {t : TypeId} (hg : w.heap[g]? = some (.cells cs t (0, 0))) (ht : t ≠ 219) (hl : u.heap.size ≤ g) (k : Keeps (fun i => i = g) w w') : UV u w' p mb al :=
  ⟨h.low.trans (k.below h.low.size (fun i hi => by rw [hi]; exact hl)), h.hp, h.hm, h.bk.kept k (fun e => by have h1 := h.bk.cell; rw [e, hg] at h1; exact ht (Obj.cells.inj (Option.some.inj h1)).2.1) (fun e => by obtain ⟨es, clock, hm, _⟩ := h.bk.map; rw [e, hg] at hm; cases hm), h.gd⟩
theorem k3 (V : World) (g : Nat) (x y z : Value) : Keeps (fun i => i = g) V (((V.setCell ⟨g, 0, none⟩ x).setCell ⟨g, 1, none⟩ y).setCell ⟨g, 2, none⟩ z) := keeps231 V g x y z
theorem B145.set {V : World} {g : Nat} {r : R3} (h : B145 V g r) (x y z : Int) : B145 (((V.setCell ⟨g, 0, none⟩ (.int .i64 x)).setCell ⟨g, 1, none⟩ (.int .i64 y)).setCell ⟨g, 2, none⟩ (.int .i64 z)) g (x, y, z) := by
  have e1 := heap_setCell_same V g 0 _ 145 (.int .i64 x) h
  have e2 := heap_setCell_same _ g 1 _ 145 (.int .i64 y) e1
  exact heap_setCell_same _ g 2 _ 145 (.int .i64 z) e2
theorem SW.put (h : SW u w p mb al ga a gs s) (x y z : Int) : SW u (((w.setCell ⟨gs, 0, none⟩ (.int .i64 x)).setCell ⟨gs, 1, none⟩ (.int .i64 y)).setCell ⟨gs, 2, none⟩ (.int .i64 z)) p mb al ga a gs (x, y, z) := by
  have k := k3 w gs (.int .i64 x) (.int .i64 y) (.int .i64 z)
  exact ⟨⟨h.uv.setc h.hs (by decide) h.gs_ k, (k.block ga (Array.getElem?_eq_some_iff.1 h.ha).1 (fun e => h.ne e.symm)).trans h.ha, h.ga_⟩, h.hs.set x y z, h.gs_, h.ne⟩
theorem SV.put (h : SV u w p mb al ga a) (x y z : Int) : SV u (((w.setCell ⟨ga, 0, none⟩ (.int .i64 x)).setCell ⟨ga, 1, none⟩ (.int .i64 y)).setCell ⟨ga, 2, none⟩ (.int .i64 z)) p mb al ga (x, y, z) :=
  ⟨h.uv.setc h.ha (by decide) h.ga_ (k3 w ga _ _ _), h.ha.set x y z, h.ga_⟩
theorem SW.ss (h : SW u w p mb al ga a gs s) : w.cell? ⟨gs, 0, none⟩ = some (.int .i64 s.1) ∧ w.cell? ⟨gs, 1, none⟩ = some (.int .i64 s.2.1) ∧ w.cell? ⟨gs, 2, none⟩ = some (.int .i64 s.2.2) := by
  obtain ⟨a0, a1, a2, -⟩ := cells145 h.hs
  exact ⟨a0, a1, a2⟩
/-- At the end: the sum of all, what all used, what is left. -/
structure SZ (u w : World) (p mb : Nat) (al : UL) (ga gw gl : Nat) (a l : R3) : Prop where
  uv : UV u w p mb al
  ha : B145 w ga a
  hw : B145 w gw a
  hl : B145 w gl l
theorem SZ.later (h : SZ u w p mb al ga gw gl a l) (hb : Below w.heap.size w w') : SZ u w' p mb al ga gw gl a l := ⟨h.uv.later hb, h.ha.later hb, h.hw.later hb, h.hl.later hb⟩
theorem SZ.s3 (h : SZ u w p mb al ga gw gl a l) : w.cell? ⟨ga, 0, none⟩ = some (.int .i64 a.1) ∧ w.cell? ⟨ga, 1, none⟩ = some (.int .i64 a.2.1) ∧ w.cell? ⟨ga, 2, none⟩ = some (.int .i64 a.2.2) ∧ w.cell? ⟨gw, 0, none⟩ = some (.int .i64 a.1) ∧ w.cell? ⟨gw, 1, none⟩ = some (.int .i64 a.2.1) ∧ w.cell? ⟨gw, 2, none⟩ = some (.int .i64 a.2.2) ∧ w.cell? ⟨gl, 0, none⟩ = some (.int .i64 l.1) ∧ w.cell? ⟨gl, 1, none⟩ = some (.int .i64 l.2.1) ∧ w.cell? ⟨gl, 2, none⟩ = some (.int .i64 l.2.2) := by
  obtain ⟨a0, a1, a2, -⟩ := cells145 h.ha
  obtain ⟨b0, b1, b2, -⟩ := cells145 h.hw
  obtain ⟨c0, c1, c2, -⟩ := cells145 h.hl
  exact ⟨a0, a1, a2, b0, b1, b2, c0, c1, c2⟩
end
def sum24.T : Bool × List (List Nat × List Nat) := (true, [([], []), ([], []), ([], []), ([], []), ([1, 2, 3], [1, 2, 3]), ([0, 4, 4], [0, 4]), ([5], [5]), ([6], [6]), ([6], [6]), ([7, 5, 0, 1, 2, 3, 4, 5, 6, 7], [7])])
def sum24.B : List Nat := [0, 0, 0, 0, 14, 31, 63, 127, 127, 255]
theorem sum24.tab : rtab .any (opsOf Try.f14 24) = sum24.T := by kernel_rfl
theorem sum24.bits : waitsOk sum24.T.2 sum24.B = true := by kernel_rfl
def sum25.T : Bool × List (List Nat × List Nat) := (true, [([], []), ([], []), ([], []), ([1, 2], [1, 2]), ([0, 3], [0, 3])])
def sum25.B : List Nat := [0, 0, 0, 6, 15]
theorem sum25.tab : rtab .any (opsOf Try.f14 25) = sum25.T := by kernel_rfl
theorem sum25.bits : waitsOk sum25.T.2 sum25.B = true := by kernel_rfl
def sum31.T : Bool × List (List Nat × List Nat) := (true, [([], []), ([], []), ([0, 1], [0, 1]), ([2], [2]), ([3], [3]), ([3, 4], [3, 4]), ([5, 3], [5]), ([6], [6]), ([6], [6]), ([8, 6, 6], [6, 8]), ([7, 9, 6], [6, 7, 9]), ([6, 10], [6, 10]), ([11, 9, 0, 1, 2, 3, 4, 5, 6, 7, 8, 9, 10, 11], [11])])
def sum31.B : List Nat := [0, 0, 3, 7, 15, 31, 63, 127, 127, 383, 1023, 2047, 4095]
theorem sum31.tab : rtab .any (opsOf Try.f14 31) = sum31.T := by kernel_rfl
theorem sum31.bits : waitsOk sum31.T.2 sum31.B = true := by kernel_rfl
set_option maxRecDepth 100000 in
set_option maxHeartbeats 8000000 in
theorem sums_any {w : World} {v0 : Value} {L : List AT} (h : Rz k147 w v0 L) (bx cx : Int) : Calls Try.prog 14 #[v0, .int .i64 bx, .int .i64 cx] w fun e w' => e = .returned (.bool true) ∧ Below w.heap.size w w' := by
  have HL := hid h
  obtain ⟨A, c, rfl, hlc, hC⟩ := h
  have hlen : (L.length : Int) ≤ 9223372036854775807 := by have := Kd.C_max hC; omega
  clear hC hlc
  have HW := hid (works_any w)
  go_enter Try.func14, Try.ntmps14
  go_upto_block 0 with (first
    | (go_at_call 92; go_must (with_reducible refine HW.out.mono ?_); rintro e_ w1 ⟨rfl, b1⟩; have HB1 := hid b1; have HN := hid (new_uv w1); clear b1)
    | (go_at_call 79; go_must (with_reducible refine HN.out.mono ?_); rintro e_ w2 ⟨rfl, h2⟩; have H2 := hid h2; clear h2))
  obtain ⟨mb, hmb⟩ : ∃ mb, mb = w1.heap.size := ⟨_, rfl⟩
  obtain ⟨p, hp⟩ : ∃ p, p = w1.heap.size + 1 := ⟨_, rfl⟩
  rw [← hp]
  have hzz := HB1.out.size
  have H0 : Hid (UV w w2 p mb []) := hid (by rw [hp, hmb]; exact ⟨HB1.out.trans (H2.out.low.mono hzz), by omega, by omega, H2.out.bk, H2.out.gd⟩)
  clear H2 HN HW HB1 hp hmb hzz
  go_cut [8] (fun s8 wx => ∃ al : UL, Hid (UV w wx p mb al) ∧ Hid (KyU al) ∧ Hid (al.length ≤ 100))
  case first =>
    go_wp2_with fail
    go_loopg [8] 100 (fun g s8 wr => ∃ (i : Nat) (al : UL), g = 100 - i ∧ i ≤ 100 ∧ i ≤ L.length ∧ s8 = .int .i64 i ∧ Hid (UV w wr p mb al) ∧ Hid (KyU al) ∧ Hid (al.length ≤ i))
    case atStart => exact ⟨0, [], rfl, by omega, by omega, rfl, H0, hid (fun r hr => by cases hr), hid (by simp)⟩
    case round =>
      clear H0
      obtain ⟨i, al, rfl, hi1, hi2, rfl, HV, HK, HM⟩ := hrel
      by_cases hlen2 : i < L.length
      · by_cases hk100 : i < 100
        · obtain ⟨b', o', c', hva, hb, cs, hK, hc⟩ := HL.out.at_ (by decide) i hlen2
          obtain ⟨⟨kd, b, c1, r0, r1, r2⟩, ha⟩ : ∃ a, a = L[i] := ⟨_, rfl⟩
          rw [← ha] at hK
          obtain rfl := k147_open hK
          simp only [Value.slice.injEq] at hva
          obtain ⟨rfl, -, rfl⟩ := hva
          have hbw := HV.out.low
          have e6 : k147.sz = 6 := rfl
          rw [e6] at hc
          have d0 : wr.cell? ⟨b', o' + i * 6, none⟩ = some (.int .i64 kd) := (hbw.cell (p := ⟨b', o' + i * 6, none⟩) hb).trans (hc 0 _ rfl)
          have d1 : wr.cell? ⟨b', o' + i * 6 + 1, none⟩ = some (.int .i64 b) := (hbw.cell (p := ⟨b', o' + i * 6 + 1, none⟩) hb).trans (hc 1 _ rfl)
          have d2 : wr.cell? ⟨b', o' + i * 6 + 2, none⟩ = some (.int .i64 c1) := (hbw.cell (p := ⟨b', o' + i * 6 + 2, none⟩) hb).trans (hc 2 _ rfl)
          have d3 : wr.cell? ⟨b', o' + i * 6 + 3, none⟩ = some (.int .i64 r0) := (hbw.cell (p := ⟨b', o' + i * 6 + 3, none⟩) hb).trans (hc 3 _ rfl)
          have d4 : wr.cell? ⟨b', o' + i * 6 + 4, none⟩ = some (.int .i64 r1) := (hbw.cell (p := ⟨b', o' + i * 6 + 4, none⟩) hb).trans (hc 4 _ rfl)
          have d5 : wr.cell? ⟨b', o' + i * 6 + 5, none⟩ = some (.int .i64 r2) := (hbw.cell (p := ⟨b', o' + i * 6 + 5, none⟩) hb).trans (hc 5 _ rfl)
          have zw := hbw.size
          have hml := HM.out
          have HV1 := hid (HV.out.alloc (.cells #[.int .i64 kd, .int .i64 b, .int .i64 c1, .int .i64 r0, .int .i64 r1, .int .i64 r2] 147))
          have hB := bits3 b
          have hC := bits3 c1
          clear ha hK hc hbw HV
          by_cases hkd0 : kd = 0
          · subst hkd0
            have hca := HV1.out.add (bits .and .i64 b 3) (bits .and .i64 c1 3) (r0, r1, r2)
            obtain ⟨n, hn⟩ : ∃ n, n = (addS ((aget (bits .and .i64 b 3, bits .and .i64 c1 3) al).getD z6) (r0, r1, r2)).1 := ⟨_, rfl⟩
            rw [← hn] at hca
            have hky := HK.out.add (k := (bits .and .i64 b 3, bits .and .i64 c1 3)) ⟨hB, hC⟩ (r0, r1, r2)
            have hln : (addA (bits .and .i64 b 3, bits .and .i64 c1 3) (r0, r1, r2) al).length ≤ al.length + 1 := aset_lenU _ _ _
            obtain ⟨al', hal'⟩ : ∃ al', al' = addA (bits .and .i64 b 3, bits .and .i64 c1 3) (r0, r1, r2) al := ⟨_, rfl⟩
            rw [← hal'] at hca hky hln
            unfold rv at hca
            have HCA := hid hca
            have HKY := hid hky
            clear hca hn hky hal' hB hC
            go_wp2_with (go_at_call 81; go_must (with_reducible refine HCA.out.mono ?_); rintro e_ w5 ⟨rfl, h5, k5⟩; have HU5 := hid h5; clear h5 k5)
            go_roundg (100 - (i + 1))
            case measure => omega
            case rel => exact ⟨i + 1, al', rfl, by omega, by omega, by go_num, HU5, HKY, hid (by omega)⟩
          · by_cases hkd1 : kd = 1
            · subst hkd1
              have hca := HV1.out.drop (bits .and .i64 b 3) (bits .and .i64 c1 3)
              have hnd := HV1.out.bk.nd
              obtain ⟨al', hal'⟩ : ∃ al', al' = adel (bits .and .i64 b 3, bits .and .i64 c1 3) al := ⟨_, rfl⟩
              have hln : al'.length ≤ al.length := by rw [hal']; exact adel_lenU _ hnd
              have hky : KyU al' := by rw [hal', adel_filterU _ _ hnd]; exact HK.out.filter _
              rw [← hal'] at hca
              obtain ⟨db, hdb⟩ : ∃ db, db = decide (al'.length < al.length) := ⟨_, rfl⟩
              rw [← hdb] at hca
              have HCA := hid hca
              have HKY := hid hky
              clear hca hky hal' hnd hdb hB hC
              go_wp2_with (go_at_call 83; go_must (with_reducible refine HCA.out.mono ?_); rintro e_ w5 ⟨rfl, h5, k5⟩; have HU5 := hid h5; clear h5 k5)
              go_roundg (100 - (i + 1))
              case measure => omega
              case rel => exact ⟨i + 1, al', rfl, by omega, by omega, by go_num, HU5, HKY, hid (by omega)⟩
            · have hca := HV1.out.gone (by omega) (bits .and .i64 b 3)
              obtain ⟨al', hal'⟩ : ∃ al', al' = al.filter fun r => !(r.1.1 == bits .and .i64 b 3) := ⟨_, rfl⟩
              have hln : al'.length ≤ al.length := by rw [hal']; exact List.length_filter_le _ _
              have hky : KyU al' := by rw [hal']; exact HK.out.filter _
              rw [← hal'] at hca
              obtain ⟨m, hm⟩ : ∃ m, m = (al.length : Int) - (al'.length : Int) := ⟨_, rfl⟩
              rw [← hm] at hca
              have HCA := hid hca
              have HKY := hid hky
              clear hca hky hal' hm hB hC
              go_wp2_with (go_at_call 84; go_must (with_reducible refine HCA.out.mono ?_); rintro e_ w5 ⟨rfl, h5, k5⟩; have HU5 := hid h5; clear h5 k5)
              go_roundg (100 - (i + 1))
              case measure => omega
              case rel => exact ⟨i + 1, al', rfl, by omega, by omega, by go_num, HU5, HKY, hid (by omega)⟩
        · go_wp2_with fail
          go_meet
          exact ⟨al, HV, HK, hid (by have := HM.out; omega)⟩
      · go_wp2_with fail
        go_meet
        exact ⟨al, HV, HK, hid (by have := HM.out; omega)⟩
  case rest =>
    clear H0
    obtain ⟨al, HV, HK, HM⟩ := hcut
    have HS0 : Hid (SV w (wc.alloc (.cells #[.int .i64 0, .int .i64 0, .int .i64 0] 145)) p mb al wc.heap.size (allS al 0)) := hid ⟨HV.out.alloc _, heap_at _ _ _ rfl, HV.out.low.size⟩
    obtain ⟨W1, hW1⟩ : ∃ W1, W1 = wc.alloc (.cells #[.int .i64 0, .int .i64 0, .int .i64 0] 145) := ⟨_, rfl⟩
    obtain ⟨ga, hga⟩ : ∃ ga, ga = wc.heap.size := ⟨_, rfl⟩
    rw [← hW1, ← hga] at HS0
    go_upto_block 3 with fail
    rw [← hW1, ← hga]
    clear hW1 hga HV
    have hml := HM.out
    go_wp2_with fail
    go_loopg [11] 4 (fun g s11 wr => ∃ x : Nat, g = 4 - x ∧ x ≤ 4 ∧ s11 = .int .i64 x ∧ Hid (SV w wr p mb al ga (allS al x)))
    case atStart => exact ⟨0, rfl, by omega, rfl, HS0⟩
    case round =>
      clear HS0
      obtain ⟨x, rfl, hx4, rfl, HS⟩ := hrel
      by_cases hx : x < 4
      · have han := allS_next al x hx
        have hai := allS_in HS.out.uv.gd hml x
        have hrow := rowS_all HS.out.uv.bk.nd HK.out (x : Int)
        have hnd := HS.out.uv.bk.nd
        obtain ⟨⟨a0, a1, a2⟩, hacc⟩ : ∃ q, q = allS al x := ⟨_, rfl⟩
        rw [← hacc] at HS han hai
        have HAN := hid han
        have HAI := hid hai
        have HROW := hid hrow
        have HS2 : Hid (SW w (wr.alloc (.cells #[.int .i64 0, .int .i64 0, .int .i64 0] 145)) p mb al ga (a0, a1, a2) wr.heap.size (rowS al x 0)) :=
          hid ⟨HS.out.later ((Below.refl _ wr).alloc (Nat.le_refl _) _), heap_at _ _ _ rfl, HS.out.uv.low.size, fun e => by have := (Array.getElem?_eq_some_iff.1 HS.out.ha).1; omega⟩
        obtain ⟨W2, hW2⟩ : ∃ W2, W2 = wr.alloc (.cells #[.int .i64 0, .int .i64 0, .int .i64 0] 145) := ⟨_, rfl⟩
        obtain ⟨gs, hgs⟩ : ∃ gs, gs = wr.heap.size := ⟨_, rfl⟩
        rw [← hW2, ← hgs] at HS2
        clear han hai hrow hnd hacc
        go_upto_block 5 with fail
        rw [← hW2, ← hgs]
        clear hW2 hgs HS
        go_wp2_with fail
        go_loopg [13] 4 (fun g s13 wr => ∃ y : Nat, g = 4 - y ∧ y ≤ 4 ∧ s13 = .int .i64 y ∧ Hid (SW w wr p mb al ga (a0, a1, a2) gs (rowS al x y)))
        case atStart => exact ⟨0, rfl, by omega, rfl, HS2⟩
        case round =>
          clear HS2
          obtain ⟨y, rfl, hy4, rfl, HSY⟩ := hrel
          by_cases hy : y < 4
          · have hrn := rowS_next al (x : Int) y hy
            have hri := rowS_in HSY.out.uv.gd (x : Int) y
            have hgi := nowOf_in HSY.out.uv.gd ((x : Int), (y : Int))
            obtain ⟨⟨s0, s1, s2⟩, hs⟩ : ∃ q, q = rowS al x y := ⟨_, rfl⟩
            obtain ⟨⟨g0, g1, g2⟩, hg⟩ : ∃ q, q = nowOf al ((x : Int), (y : Int)) := ⟨_, rfl⟩
            rw [← hs] at HSY hrn hri
            rw [← hg] at hrn hgi
            have hge : ∀ W, UBk W p mb al → Calls Try.prog 87 #[.pointer (some ⟨p, 0, none⟩), .int .i64 x, .int .i64 y] W fun e w' => e = .returned (rv (g0, g1, g2)) ∧ Below W.heap.size W w' := fun W hW => by
              have := get_any hW x y
              rwa [show ((aget ((x : Int), (y : Int)) al).getD z6).1 = (g0, g1, g2) from hg.symm] at this
            have hadd := fun W => add_any (s0, s1, s2) (g0, g1, g2) W (by
              simp only [In3, Sml] at hri hgi ⊢
              omega)
            simp only [rv, add3] at hge hadd
            have HGET := hid hge
            have HADD := hid hadd
            have HRN := hid hrn
            clear hrn hri hgi hs hg hge hadd
            go_upto_region 24 with fail
            have HU := hid (HSY.out.later (Below.refl _ wr).drew)
            refine start_ (n := 10) (S := fun V : World => V.cell? ⟨gs, 0, none⟩ = some (.int .i64 s0) ∧ V.cell? ⟨gs, 1, none⟩ = some (.int .i64 s1) ∧ V.cell? ⟨gs, 2, none⟩ = some (.int .i64 s2)) (ds := [9]) #[false, false, false, false, false, false, false, false, false, false] (by kernel_rfl) rfl rfl HU.out.ss (fun hHeld => ?_); refine with_tabW sum24.tab sum24.bits (fun HT_ HW_ => ?_)
            refine pure_ (i := 1) (N := some 76) (v := ?_) (a' := ?_) #[false, true, false, false, false, false, false, false, false, false] rfl rfl (any_of HT_.out (by kernel_rfl)) (fun _ _ _ h => h) (Or.inl ⟨by rfl, ?_⟩) ?_ ?_
            rotate_left
            · intro w'
              go_simp
              with_reducible rfl
            rotate_left
            · simp only [Act.put, List.setIfInBounds_toArray, List.set_cons_zero, List.set_cons_succ, i64_w, i32_w]
              rfl
            refine pure_ (i := 2) (N := some 77) (v := ?_) (a' := ?_) #[false, true, true, false, false, false, false, false, false, false] rfl rfl (any_of HT_.out (by kernel_rfl)) (fun _ _ _ h => h) (Or.inl ⟨by rfl, ?_⟩) ?_ ?_
            rotate_left
            · intro w'
              go_simp
              with_reducible rfl
            rotate_left
            · simp only [Act.put, List.setIfInBounds_toArray, List.set_cons_zero, List.set_cons_succ, i64_w, i32_w]
              rfl
            refine pure_ (i := 3) (N := some 78) (v := ?_) (a' := ?_) #[false, true, true, true, false, false, false, false, false, false] rfl rfl (any_of HT_.out (by kernel_rfl)) (fun _ _ _ h => h) (Or.inl ⟨by rfl, ?_⟩) ?_ ?_
            rotate_left
            · intro w'
              go_simp
              with_reducible rfl
            rotate_left
            · simp only [Act.put, List.setIfInBounds_toArray, List.set_cons_zero, List.set_cons_succ, i64_w, i32_w]
              rfl
            refine take_ (i := 0) (N := some 75) (v := ?_) (a' := ?_) #[true, true, true, true, false, false, false, false, false, false] rfl rfl (take_ofW HT_.out HW_.out (by kernel_rfl)) (fun _ _ _ h => h) (Or.inl ⟨by rfl, ?_⟩) hHeld ?_ ?_
            rotate_left
            · rintro w' ⟨c0, c1, c2⟩
              go_simp
              with_reducible rfl
            rotate_left
            · simp only [Act.put, List.setIfInBounds_toArray, List.set_cons_zero, List.set_cons_succ, i64_w, i32_w]
              rfl
            refine one_ (i := 4) (N := some 79) #[true, true, true, true, true, false, false, false, false, false] rfl rfl (one_of HT_.out (by kernel_rfl)) (by decide) (fun K hK => ?_)
            refine goes_ Try.func87 (by kernel_rfl) rfl #[.pointer (some ⟨p, 0, none⟩), .int .i64 x, .int .i64 y] (by rfl) rfl rfl (by (try simp only [List.map_toArray, List.map_cons, List.map_nil]); first | done | rfl) ?_
            with_reducible refine (HGET.out _ HU.out.uv.bk).mono ?_
            rintro e_ V4 ⟨rfl, hb⟩
            refine ⟨_, rfl, ?_⟩
            have HUN := hid (HU.out.later hb)
            clear HU hb
            have HU := HUN
            clear HUN
            refine hK.out _ _ HU.out.ss (fun hHeld => ?_)
            clear hK K
            refine norm_ (a' := ?_) ?_ ?_
            rotate_left
            · show Act.put _ (some 79) _ = _
              simp only [Act.put, List.setIfInBounds_toArray, List.set_cons_zero, List.set_cons_succ, i64_w, i32_w]
              rfl
            refine one_ (i := 5) (N := some 80) #[true, true, true, true, true, true, false, false, false, false] rfl rfl (one_of HT_.out (by kernel_rfl)) (by decide) (fun K hK => ?_)
            refine goes_ Try.func94 (by kernel_rfl) rfl #[.agg #[.int .i64 s0, .int .i64 s1, .int .i64 s2], .agg #[.int .i64 g0, .int .i64 g1, .int .i64 g2]] (by rfl) rfl rfl (by (try simp only [List.map_toArray, List.map_cons, List.map_nil]); first | done | rfl) ?_
            with_reducible refine (HADD.out _).mono ?_
            rintro e_ V5 ⟨rfl, hb⟩
            refine ⟨_, rfl, ?_⟩
            have HUN := hid (HU.out.later hb)
            clear HU hb
            have HU := HUN
            clear HUN
            refine hK.out _ _ HU.out.ss (fun hHeld => ?_)
            clear hK K
            refine norm_ (a' := ?_) ?_ ?_
            rotate_left
            · show Act.put _ (some 80) _ = _
              simp only [Act.put, List.setIfInBounds_toArray, List.set_cons_zero, List.set_cons_succ, i64_w, i32_w]
              rfl
            refine pure_ (i := 6) (N := some 74) (v := ?_) (a' := ?_) #[true, true, true, true, true, true, true, false, false, false] rfl rfl (any_of HT_.out (by kernel_rfl)) (fun _ _ _ h => h) (Or.inl ⟨by rfl, ?_⟩) ?_ ?_
            rotate_left
            · intro w'
              go_simp
              with_reducible rfl
            rotate_left
            · simp only [Act.put, List.setIfInBounds_toArray, List.set_cons_zero, List.set_cons_succ, i64_w, i32_w]
              rfl
            refine pure_ (i := 7) (N := some 81) (v := ?_) (a' := ?_) #[true, true, true, true, true, true, true, true, false, false] rfl rfl (any_of HT_.out (by kernel_rfl)) (fun _ _ _ h => h) (Or.inl ⟨by rfl, ?_⟩) ?_ ?_
            rotate_left
            · intro w'
              go_simp
              with_reducible rfl
            rotate_left
            · simp only [Act.put, List.setIfInBounds_toArray, List.set_cons_zero, List.set_cons_succ, i64_w, i32_w]
              rfl
            refine pure_ (i := 8) (N := some 82) (v := ?_) (a' := ?_) #[true, true, true, true, true, true, true, true, true, false] rfl rfl (any_of HT_.out (by kernel_rfl)) (fun _ _ _ h => h) (Or.inl ⟨by rfl, ?_⟩) ?_ ?_
            rotate_left
            · intro w'
              go_simp
              with_reducible rfl
            rotate_left
            · simp only [Act.put, List.setIfInBounds_toArray, List.set_cons_zero, List.set_cons_succ, i64_w, i32_w]
              rfl
            refine last_ (i := 9) (N := none) #[true, true, true, true, true, true, true, true, true, true] rfl rfl (one_of HT_.out (by kernel_rfl)) (by decide) (fun K hK => ?_)
            obtain ⟨W4, hW4⟩ : ∃ W4, W4 = ((V5.setCell ⟨gs, 0, none⟩ (.int .i64 (s0 + g0))).setCell ⟨gs, 1, none⟩ (.int .i64 (s1 + g1))).setCell ⟨gs, 2, none⟩ (.int .i64 (s2 + g2)) := ⟨_, rfl⟩
            have HN := hid (show SW w W4 p mb al ga (a0, a1, a2) gs (s0 + g0, s1 + g1, s2 + g2) by rw [hW4]; exact HU.out.put _ _ _)
            have HW4 := hid hW4
            obtain ⟨y0, y1, y2, yf⟩ := cells145 HU.out.hs
            have yf0 := yf 0
            have yf1 := yf 1
            have yf2 := yf 2
            simp only at y0 y1 y2
            clear hW4 yf
            refine skip_ (w1 := W4) (by rfl) rfl (by rw [HW4.out]; go_simp) ?_
            clear y0 y1 y2 yf0 yf1 yf2 HU HW4
            refine hK.out _ _ ?_
            clear hK K
            refine done_ (done_of HT_.out (by kernel_rfl)) ?_
            go_wp2
            go_roundg (4 - (y + 1))
            case measure => omega
            case rel => exact ⟨y + 1, rfl, by omega, by go_num, by rw [HRN.out]; exact HN⟩
          · have hye : y = 4 := by omega
            subst hye
            rw [HROW.out] at HSY
            obtain ⟨⟨s0, s1, s2⟩, hs⟩ : ∃ q, q = ofU x al := ⟨_, rfl⟩
            rw [← hs] at HSY HAN
            have hoi := sumM_in HSY.out.uv.gd (by omega) (fun k => k.1 == (x : Int))
            rw [show sumM (fun k => k.1 == (x : Int)) al = (s0, s1, s2) from hs.symm] at hoi
            have hof : ∀ W, UV w W p mb al → Calls Try.prog 89 #[.pointer (some ⟨p, 0, none⟩), .int .i64 x] W fun e w' => e = .returned (rv (s0, s1, s2)) ∧ Below W.heap.size W w' := fun W hW => by
              have := of_use hW.bk hW.gd (by omega) x
              rwa [← hs] at this
            have hadd := fun W => add_any (a0, a1, a2) (s0, s1, s2) W (by
              have := HAI.out
              simp only [Sml] at this hoi ⊢
              omega)
            have E0 : ∀ W, (Op.equalIn 10000 145 (.agg #[.int .i64 s0, .int .i64 s1, .int .i64 s2]) (.agg #[.int .i64 s0, .int .i64 s1, .int .i64 s2])).run Try.prog W = .ok true W := fun W => by
              have := eq145 W (s0, s1, s2) (s0, s1, s2)
              rwa [decide_eq_true rfl] at this
            simp only [rv, add3] at hof hadd
            have HOF := hid hof
            have HADD := hid hadd
            clear hs hoi hof hadd
            go_upto_region 25 with fail
            have HU := hid (HSY.out.later (Below.refl _ wr).drew)
            refine start_ (n := 5) (S := fun V : World => V.cell? ⟨gs, 0, none⟩ = some (.int .i64 s0) ∧ V.cell? ⟨gs, 1, none⟩ = some (.int .i64 s1) ∧ V.cell? ⟨gs, 2, none⟩ = some (.int .i64 s2)) (ds := []) #[false, false, false, false, false] (by kernel_rfl) rfl rfl HU.out.ss (fun hHeld => ?_); refine with_tabW sum25.tab sum25.bits (fun HT_ HW_ => ?_)
            refine pure_ (i := 1) (N := some 84) (v := ?_) (a' := ?_) #[false, true, false, false, false] rfl rfl (any_of HT_.out (by kernel_rfl)) (fun _ _ _ h => h) (Or.inl ⟨by rfl, ?_⟩) ?_ ?_
            rotate_left
            · intro w'
              go_simp
              with_reducible rfl
            rotate_left
            · simp only [Act.put, List.setIfInBounds_toArray, List.set_cons_zero, List.set_cons_succ, i64_w, i32_w]
              rfl
            refine pure_ (i := 2) (N := some 85) (v := ?_) (a' := ?_) #[false, true, true, false, false] rfl rfl (any_of HT_.out (by kernel_rfl)) (fun _ _ _ h => h) (Or.inl ⟨by rfl, ?_⟩) ?_ ?_
            rotate_left
            · intro w'
              go_simp
              with_reducible rfl
            rotate_left
            · simp only [Act.put, List.setIfInBounds_toArray, List.set_cons_zero, List.set_cons_succ, i64_w, i32_w]
              rfl
            refine take_ (i := 0) (N := some 83) (v := ?_) (a' := ?_) #[true, true, true, false, false] rfl rfl (take_ofW HT_.out HW_.out (by kernel_rfl)) (fun _ _ _ h => h) (Or.inl ⟨by rfl, ?_⟩) hHeld ?_ ?_
            rotate_left
            · rintro w' ⟨c0, c1, c2⟩
              go_simp
              with_reducible rfl
            rotate_left
            · simp only [Act.put, List.setIfInBounds_toArray, List.set_cons_zero, List.set_cons_succ, i64_w, i32_w]
              rfl
            refine one_ (i := 3) (N := some 86) #[true, true, true, true, false] rfl rfl (one_of HT_.out (by kernel_rfl)) (by decide) (fun K hK => ?_)
            refine goes_ Try.func89 (by kernel_rfl) rfl #[.pointer (some ⟨p, 0, none⟩), .int .i64 x] (by rfl) rfl rfl (by (try simp only [List.map_toArray, List.map_cons, List.map_nil]); first | done | rfl) ?_
            with_reducible refine (HOF.out _ HU.out.uv).mono ?_
            rintro e_ V3 ⟨rfl, hb⟩
            refine ⟨_, rfl, ?_⟩
            have HUN := hid (HU.out.later hb)
            clear HU hb
            have HU := HUN
            clear HUN
            refine hK.out _ _ HU.out.ss (fun hHeld => ?_)
            clear hK K
            refine norm_ (a' := ?_) ?_ ?_
            rotate_left
            · show Act.put _ (some 86) _ = _
              simp only [Act.put, List.setIfInBounds_toArray, List.set_cons_zero, List.set_cons_succ, i64_w, i32_w]
              rfl
            refine pure_ (i := 4) (N := some 87) (v := ?_) (a' := ?_) #[true, true, true, true, true] rfl rfl (any_of HT_.out (by kernel_rfl)) (fun _ _ _ h => h) (Or.inl ⟨by rfl, ?_⟩) ?_ ?_
            rotate_left
            · intro w'
              go_simp
              with_reducible rfl
            rotate_left
            · simp only [Act.put, List.setIfInBounds_toArray, List.set_cons_zero, List.set_cons_succ, i64_w, i32_w]
              rfl
            refine done_ (done_of HT_.out (by kernel_rfl)) ?_
            obtain ⟨y0, y1, y2, -⟩ := cells145 HU.out.ha
            obtain ⟨z0, z1, z2, -⟩ := cells145 HU.out.hs
            simp only at y0 y1 y2 z0 z1 z2
            go_upto_region 19 with (go_at_call 94; go_must (with_reducible refine (HADD.out _).mono ?_); rintro e_ w7 ⟨rfl, hb⟩; have HU7 := hid (HU.out.toSV.later hb); obtain ⟨t0, t1, t2, tf⟩ := cells145 HU7.out.ha; have tf0 := tf 0; have tf1 := tf 1; have tf2 := tf 2; simp only at t0 t1 t2; clear hb tf)
            have HU8 := hid (HU7.out.put (a0 + s0) (a1 + s1) (a2 + s2))
            go_wp2_with fail
            go_roundg (4 - (x + 1))
            case measure => omega
            case rel => exact ⟨x + 1, rfl, by omega, by go_num, by rw [HAN.out]; exact HU8⟩
      · have hxe : x = 4 := by omega
        subst hxe
        rw [allS_all HS.out.uv.bk.nd HK.out] at HS
        obtain ⟨⟨a0, a1, a2⟩, ha⟩ : ∃ q, q = allU al := ⟨_, rfl⟩
        rw [← ha] at HS
        obtain ⟨k, hk⟩ : ∃ k, k = (bits .and .i64 bx 3, bits .and .i64 cx 3) := ⟨_, rfl⟩
        have hall := all_use HS.out.uv.bk HS.out.uv.gd (by omega)
        rw [← ha] at hall
        obtain ⟨⟨m0, m1, m2⟩, hm⟩ : ∃ q, q = nowOf al k := ⟨_, rfl⟩
        obtain ⟨⟨l0, l1, l2⟩, hl⟩ : ∃ q, q = allU (adel k al) := ⟨_, rfl⟩
        have hless := all_less HS.out.uv.bk.nd k
        rw [← ha, ← hm, ← hl] at hless
        have hmi := nowOf_in HS.out.uv.gd k
        rw [← hm] at hmi
        have hln := adel_lenU (al := al) k HS.out.uv.bk.nd
        have hli := sumM_in (adel_goodU k HS.out.uv.bk.nd HS.out.uv.gd) (by omega) (fun _ => true)
        rw [show sumM (fun _ => true) (adel k al) = (l0, l1, l2) from hl.symm] at hli
        simp only [add3, Prod.mk.injEq] at hless
        obtain ⟨q0, q1, q2⟩ := hless
        have hsub := fun W => sub_any (a0, a1, a2) (m0, m1, m2) W (by
          simp only [In3, Dif] at hmi hli ⊢
          omega)
        have hs3 : sub3 (a0, a1, a2) (m0, m1, m2) = (l0, l1, l2) := by
          refine r3_ext ?_ ?_ ?_ <;> simp only [sub3] <;> omega
        rw [hs3] at hsub
        have hge : ∀ W, UBk W p mb al → Calls Try.prog 87 #[.pointer (some ⟨p, 0, none⟩), .int .i64 (bits .and .i64 bx 3), .int .i64 (bits .and .i64 cx 3)] W fun e w' => e = .returned (rv (m0, m1, m2)) ∧ Below W.heap.size W w' := fun W hW => by
          have := get_any hW (bits .and .i64 bx 3) (bits .and .i64 cx 3)
          rwa [← hk, show ((aget k al).getD z6).1 = (m0, m1, m2) from hm.symm] at this
        obtain ⟨al', hal'⟩ : ∃ al', al' = adel k al := ⟨_, rfl⟩
        rw [← hal'] at hl hln
        have hdr : ∀ W, UV w W p mb al → Calls Try.prog 83 #[.pointer (some ⟨p, 0, none⟩), .int .i64 (bits .and .i64 bx 3), .int .i64 (bits .and .i64 cx 3)] W fun e w' => (∃ b, e = .returned (.bool b)) ∧ UV w w' p mb al' ∧ Keeps (fun i => i = mb) W w' := fun W hW => by
          have := hW.drop (bits .and .i64 bx 3) (bits .and .i64 cx 3)
          rw [← hk, ← hal'] at this
          exact this.mono fun e w' ⟨h1, h2⟩ => ⟨⟨_, h1⟩, h2⟩
        have hal2 : ∀ W, UV w W p mb al' → Calls Try.prog 91 #[.pointer (some ⟨p, 0, none⟩)] W fun e w' => e = .returned (rv (l0, l1, l2)) ∧ Below W.heap.size W w' := fun W hW => by
          have := all_use hW.bk hW.gd (by omega)
          rwa [← hl] at this
        have E0 : ∀ W, (Op.equalIn 10000 145 (.agg #[.int .i64 a0, .int .i64 a1, .int .i64 a2]) (.agg #[.int .i64 a0, .int .i64 a1, .int .i64 a2])).run Try.prog W = .ok true W := fun W => by
          have := eq145 W (a0, a1, a2) (a0, a1, a2)
          rwa [decide_eq_true rfl] at this
        have E1 : ∀ W, (Op.equalIn 10000 145 (.agg #[.int .i64 l0, .int .i64 l1, .int .i64 l2]) (.agg #[.int .i64 l0, .int .i64 l1, .int .i64 l2])).run Try.prog W = .ok true W := fun W => by
          have := eq145 W (l0, l1, l2) (l0, l1, l2)
          rwa [decide_eq_true rfl] at this
        unfold rv at hall hsub hge hal2
        have HALL := hid hall
        have HSUB := hid hsub
        have HGE := hid hge
        have HDR := hid hdr
        have HALL2 := hid hal2
        clear hall hsub hge hdr hal2 hmi hli hs3 ha hm hl hal' hk q0 q1 q2 hln
        go_upto_region 29 with (first
          | (go_at_call 91; go_must (with_reducible refine HALL.out.mono ?_); rintro e_ w7 ⟨rfl, hb⟩; have HU7 := hid (HS.out.later hb); have HGE7 := hid (HGE.out _ HU7.out.uv.bk); clear hb)
          | (go_at_call 87; go_must (with_reducible refine HGE7.out.mono ?_); rintro e_ w8 ⟨rfl, hb⟩; have HU8 := hid (HU7.out.later hb); clear hb))
        have k9 : Below w8.heap.size w8 ((w8.alloc (.cells #[.int .i64 a0, .int .i64 a1, .int .i64 a2] 145)).alloc (.cells #[.int .i64 m0, .int .i64 m1, .int .i64 m2] 145)) := ((Below.refl _ w8).alloc (Nat.le_refl _) _).alloc (by simp) _
        have hU9 := HU8.out.later k9
        have hw9 : B145 ((w8.alloc (.cells #[.int .i64 a0, .int .i64 a1, .int .i64 a2] 145)).alloc (.cells #[.int .i64 m0, .int .i64 m1, .int .i64 m2] 145)) w8.heap.size (a0, a1, a2) := (Below.heap_alloc _ _ _ (by simp)).trans (heap_at _ _ _ rfl)
        have hm9 : B145 ((w8.alloc (.cells #[.int .i64 a0, .int .i64 a1, .int .i64 a2] 145)).alloc (.cells #[.int .i64 m0, .int .i64 m1, .int .i64 m2] 145)) (w8.heap.size + 1) (m0, m1, m2) := heap_at _ _ _ (by simp)
        obtain ⟨W9, hW9⟩ : ∃ W9, W9 = ((w8.alloc (.cells #[.int .i64 a0, .int .i64 a1, .int .i64 a2] 145)).alloc (.cells #[.int .i64 m0, .int .i64 m1, .int .i64 m2] 145)) := ⟨_, rfl⟩
        obtain ⟨gm, hgm⟩ : ∃ gm, gm = w8.heap.size + 1 := ⟨_, rfl⟩
        obtain ⟨gw, hgw⟩ : ∃ gw, gw = w8.heap.size := ⟨_, rfl⟩
        rw [← hW9] at hU9 hw9 hm9 ⊢
        rw [← hgm] at hm9 ⊢
        rw [← hgw] at hw9 ⊢
        have HDR9 := hid (HDR.out W9 hU9.uv)
        have HU9 := hid hU9
        have HW9 := hid hw9
        have HM9 := hid hm9
        clear k9 hU9 hw9 hm9 hW9 hgm hgw
        go_upto_region 31 with (first
          | (go_at_call 83; go_must (with_reducible refine HDR9.out.mono ?_); rintro e_ w10 ⟨⟨db, rfl⟩, h10, k10⟩; have HU10 := hid h10; have HA10 := hid (show B145 w10 ga (a0, a1, a2) from blkU HU9.out.ha HU9.out.uv.bk (by intro es c e; cases e) k10); have HW10 := hid (show B145 w10 gw (a0, a1, a2) from blkU HW9.out HU9.out.uv.bk (by intro es c e; cases e) k10); have hm10 : B145 w10 gm (m0, m1, m2) := blkU HM9.out HU9.out.uv.bk (by intro es c e; cases e) k10; obtain ⟨y0, y1, y2, -⟩ := cells145 HW10.out; obtain ⟨z0, z1, z2, -⟩ := cells145 hm10; simp only at y0 y1 y2 z0 z1 z2; clear h10 k10 hm10)
          | (go_at_call 95; go_must (with_reducible refine (HSUB.out _).mono ?_); rintro e_ w11 ⟨rfl, hb⟩; have HU11 := hid (HU10.out.later hb); have HA11 := hid (HA10.out.later hb); have HW11 := hid (HW10.out.later hb); clear hb))
        have HZ : Hid (SZ w (w11.alloc (.cells #[.int .i64 l0, .int .i64 l1, .int .i64 l2] 145)) p mb al' ga gw w11.heap.size (a0, a1, a2) (l0, l1, l2)) := hid ⟨HU11.out.alloc _, HA11.out.later ((Below.refl _ w11).alloc (Nat.le_refl _) _), HW11.out.later ((Below.refl _ w11).alloc (Nat.le_refl _) _), heap_at _ _ _ rfl⟩
        obtain ⟨W12, hW12⟩ : ∃ W12, W12 = w11.alloc (.cells #[.int .i64 l0, .int .i64 l1, .int .i64 l2] 145) := ⟨_, rfl⟩
        obtain ⟨gl, hgl⟩ : ∃ gl, gl = w11.heap.size := ⟨_, rfl⟩
        rw [← hW12, ← hgl] at HZ ⊢
        have HU := hid (HZ.out.later (Below.refl _ W12).drew)
        clear HZ hW12 hgl y0 y1 y2 z0 z1 z2
        refine start_ (n := 13) (S := fun V : World => V.cell? ⟨ga, 0, none⟩ = some (.int .i64 a0) ∧ V.cell? ⟨ga, 1, none⟩ = some (.int .i64 a1) ∧ V.cell? ⟨ga, 2, none⟩ = some (.int .i64 a2) ∧ V.cell? ⟨gw, 0, none⟩ = some (.int .i64 a0) ∧ V.cell? ⟨gw, 1, none⟩ = some (.int .i64 a1) ∧ V.cell? ⟨gw, 2, none⟩ = some (.int .i64 a2) ∧ V.cell? ⟨gl, 0, none⟩ = some (.int .i64 l0) ∧ V.cell? ⟨gl, 1, none⟩ = some (.int .i64 l1) ∧ V.cell? ⟨gl, 2, none⟩ = some (.int .i64 l2)) (ds := []) #[false, false, false, false, false, false, false, false, false, false, false, false, false] (by kernel_rfl) rfl rfl HU.out.s3 (fun hHeld => ?_); refine with_tabW sum31.tab sum31.bits (fun HT_ HW_ => ?_)
        refine take_ (i := 0) (N := some 114) (v := ?_) (a' := ?_) #[true, false, false, false, false, false, false, false, false, false, false, false, false] rfl rfl (take_ofW HT_.out HW_.out (by kernel_rfl)) (fun _ _ _ h => h) (Or.inl ⟨by rfl, ?_⟩) hHeld ?_ ?_
        rotate_left
        · rintro w' ⟨c0, c1, c2, c3, c4, c5, c6, c7, c8⟩
          go_simp
          with_reducible rfl
        rotate_left
        · simp only [Act.put, List.setIfInBounds_toArray, List.set_cons_zero, List.set_cons_succ, i64_w, i32_w]
          rfl
        refine take_ (i := 1) (N := some 115) (v := ?_) (a' := ?_) #[true, true, false, false, false, false, false, false, false, false, false, false, false] rfl rfl (take_ofW HT_.out HW_.out (by kernel_rfl)) (fun _ _ _ h => h) (Or.inl ⟨by rfl, ?_⟩) hHeld ?_ ?_
        rotate_left
        · rintro w' ⟨c0, c1, c2, c3, c4, c5, c6, c7, c8⟩
          go_simp
          with_reducible rfl
        rotate_left
        · simp only [Act.put, List.setIfInBounds_toArray, List.set_cons_zero, List.set_cons_succ, i64_w, i32_w]
          rfl
        refine pure_ (i := 2) (N := some 116) (v := ?_) (a' := ?_) #[true, true, true, false, false, false, false, false, false, false, false, false, false] rfl rfl (any_of HT_.out (by kernel_rfl)) (fun _ _ _ h => h) (Or.inl ⟨by rfl, ?_⟩) ?_ ?_
        rotate_left
        · intro w'
          go_simp
          with_reducible rfl
        rotate_left
        · simp only [Act.put, List.setIfInBounds_toArray, List.set_cons_zero, List.set_cons_succ, i64_w, i32_w]
          rfl
        refine pure_ (i := 3) (N := some 117) (v := ?_) (a' := ?_) #[true, true, true, true, false, false, false, false, false, false, false, false, false] rfl rfl (any_of HT_.out (by kernel_rfl)) (fun _ _ _ h => h) (Or.inl ⟨by rfl, ?_⟩) ?_ ?_
        rotate_left
        · intro w'
          go_simp
          with_reducible rfl
        rotate_left
        · simp only [Act.put, List.setIfInBounds_toArray, List.set_cons_zero, List.set_cons_succ, i64_w, i32_w]
          rfl
        refine pure_ (i := 4) (N := some 118) (v := ?_) (a' := ?_) #[true, true, true, true, true, false, false, false, false, false, false, false, false] rfl rfl (any_of HT_.out (by kernel_rfl)) (fun _ _ _ h => h) (Or.inl ⟨by rfl, ?_⟩) ?_ ?_
        rotate_left
        · intro w'
          go_simp
          with_reducible rfl
        rotate_left
        · simp only [Act.put, List.setIfInBounds_toArray, List.set_cons_zero, List.set_cons_succ, i64_w, i32_w]
          rfl
        refine pure_ (i := 5) (N := some 119) (v := ?_) (a' := ?_) #[true, true, true, true, true, true, false, false, false, false, false, false, false] rfl rfl (any_of HT_.out (by kernel_rfl)) (fun _ _ _ h => h) (Or.inl ⟨by rfl, ?_⟩) ?_ ?_
        rotate_left
        · intro w'
          go_simp
          with_reducible rfl
        rotate_left
        · simp only [Act.put, List.setIfInBounds_toArray, List.set_cons_zero, List.set_cons_succ, i64_w, i32_w]
          rfl
        refine pure_ (i := 6) (N := some 120) (v := ?_) (a' := ?_) #[true, true, true, true, true, true, true, false, false, false, false, false, false] rfl rfl (any_of HT_.out (by kernel_rfl)) (fun _ _ _ h => h) (Or.inl ⟨by rfl, ?_⟩) ?_ ?_
        rotate_left
        · intro w'
          go_simp
          with_reducible rfl
        rotate_left
        · simp only [Act.put, List.setIfInBounds_toArray, List.set_cons_zero, List.set_cons_succ, i64_w, i32_w]
          rfl
        refine pure_ (i := 8) (N := some 122) (v := ?_) (a' := ?_) #[true, true, true, true, true, true, true, false, true, false, false, false, false] rfl rfl (any_of HT_.out (by kernel_rfl)) (fun _ _ _ h => h) (Or.inl ⟨by rfl, ?_⟩) ?_ ?_
        rotate_left
        · intro w'
          go_simp
          with_reducible rfl
        rotate_left
        · simp only [Act.put, List.setIfInBounds_toArray, List.set_cons_zero, List.set_cons_succ, i64_w, i32_w]
          rfl
        refine take_ (i := 7) (N := some 121) (v := ?_) (a' := ?_) #[true, true, true, true, true, true, true, true, true, false, false, false, false] rfl rfl (take_ofW HT_.out HW_.out (by kernel_rfl)) (fun _ _ _ h => h) (Or.inl ⟨by rfl, ?_⟩) hHeld ?_ ?_
        rotate_left
        · rintro w' ⟨c0, c1, c2, c3, c4, c5, c6, c7, c8⟩
          go_simp
          with_reducible rfl
        rotate_left
        · simp only [Act.put, List.setIfInBounds_toArray, List.set_cons_zero, List.set_cons_succ, i64_w, i32_w]
          rfl
        refine one_ (i := 9) (N := some 123) #[true, true, true, true, true, true, true, true, true, true, false, false, false] rfl rfl (one_of HT_.out (by kernel_rfl)) (by decide) (fun K hK => ?_)
        refine goes_ Try.func91 (by kernel_rfl) rfl #[.pointer (some ⟨p, 0, none⟩)] (by rfl) rfl rfl (by (try simp only [List.map_toArray, List.map_cons, List.map_nil]); first | done | rfl) ?_
        with_reducible refine (HALL2.out _ HU.out.uv).mono ?_
        rintro e_ V9 ⟨rfl, hb⟩
        refine ⟨_, rfl, ?_⟩
        have HUN := hid (HU.out.later hb)
        clear HU hb
        have HU := HUN
        clear HUN
        refine hK.out _ _ HU.out.s3 (fun hHeld => ?_)
        clear hK K
        refine norm_ (a' := ?_) ?_ ?_
        rotate_left
        · show Act.put _ (some 123) _ = _
          simp only [Act.put, List.setIfInBounds_toArray, List.set_cons_zero, List.set_cons_succ, i64_w, i32_w]
          rfl
        refine pure_ (i := 10) (N := some 124) (v := ?_) (a' := ?_) #[true, true, true, true, true, true, true, true, true, true, true, false, false] rfl rfl (any_of HT_.out (by kernel_rfl)) (fun _ _ _ h => h) (Or.inl ⟨by rfl, ?_⟩) ?_ ?_
        rotate_left
        · intro w'
          go_simp
          with_reducible rfl
        rotate_left
        · simp only [Act.put, List.setIfInBounds_toArray, List.set_cons_zero, List.set_cons_succ, i64_w, i32_w]
          rfl
        refine pure_ (i := 11) (N := some 125) (v := ?_) (a' := ?_) #[true, true, true, true, true, true, true, true, true, true, true, true, false] rfl rfl (any_of HT_.out (by kernel_rfl)) (fun _ _ _ h => h) (Or.inl ⟨by rfl, ?_⟩) ?_ ?_
        rotate_left
        · intro w'
          go_simp
          with_reducible rfl
        rotate_left
        · simp only [Act.put, List.setIfInBounds_toArray, List.set_cons_zero, List.set_cons_succ, i64_w, i32_w]
          rfl
        refine pure_ (i := 12) (N := some 6) (v := ?_) (a' := ?_) #[true, true, true, true, true, true, true, true, true, true, true, true, true] rfl rfl (any_of HT_.out (by kernel_rfl)) (fun _ _ _ h => h) (Or.inl ⟨by rfl, ?_⟩) ?_ ?_
        rotate_left
        · intro w'
          go_simp
          with_reducible rfl
        rotate_left
        · simp only [Act.put, List.setIfInBounds_toArray, List.set_cons_zero, List.set_cons_succ, i64_w, i32_w]
          rfl
        refine done_ (done_of HT_.out (by kernel_rfl)) ?_
        go_wp2
        go_ret
        exact ⟨rfl, HU.out.uv.low⟩
end Go.Proofs.Ytnceglkoolfncaa.Us
