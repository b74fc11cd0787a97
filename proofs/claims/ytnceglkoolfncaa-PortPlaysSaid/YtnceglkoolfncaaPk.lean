/- The table of ports: its calls as steps of one invariant. -/
import Derived.Test.YtnceglkoolfncaaPj
namespace Go.Proofs.Ytnceglkoolfncaa.Po
open Go.RowKit Go.Pv

/-! ### plain -/
theorem ins_perm (o : Int) (l : List Hd) (p : Int) : (ins o l p).Perm ((p, o) :: l) := by
  unfold ins
  have h : l.take (atOf p l) ++ l.drop (atOf p l) = l := List.take_append_drop _ _
  exact List.perm_middle.trans (by rw [h])

theorem takeAll_perm (o : Int) : ∀ (ps : List Int) (l l' : List Hd), takeAll o ps l = some l' → l'.Perm (ps.map (fun p => (p, o)) ++ l)
  | [], l, l', h => by simp only [takeAll, Option.some.injEq] at h; subst h; exact List.Perm.refl _
  | p :: ps, l, l', h => by
    simp only [takeAll] at h
    split at h
    · cases h
    · have h1 := takeAll_perm o ps (ins o l p) l' h
      have h2 : (ps.map (fun p => (p, o)) ++ ins o l p).Perm (ps.map (fun p => (p, o)) ++ ((p, o) :: l)) := (ins_perm o l p).append_left _
      exact (h1.trans h2).trans (by simp only [List.map_cons, List.cons_append]; exact List.perm_middle)

theorem mine_perm (ow : Int) {a b : List Hd} (h : a.Perm b) : (mine ow a).length = (mine ow b).length := by
  unfold mine
  simp only [List.length_map]
  exact (h.filter _).length_eq

theorem mine_app (ow : Int) (a b : List Hd) : (mine ow (a ++ b)).length = (mine ow a).length + (mine ow b).length := by simp [mine]
theorem mine_map (ow o : Int) (ps : List Int) : (mine ow (ps.map (fun p => (p, o)))).length = if o = ow then ps.length else 0 := by
  unfold mine
  by_cases h : o = ow
  · subst h
    rw [if_pos rfl, List.length_map, List.filter_eq_self.2]
    · simp
    · intro a ha; obtain ⟨p, _, rfl⟩ := List.mem_map.1 ha; simp
  · rw [if_neg h, List.length_map, List.filter_eq_nil_iff.2]
    · rfl
    · intro a ha; obtain ⟨p, _, rfl⟩ := List.mem_map.1 ha; simpa using h

theorem atOf_mem {x ow : Int} {hs : List Hd} (hr : Rising hs) (hm : (x, ow) ∈ hs) : ∃ h : atOf x hs < hs.length, hs[atOf x hs] = (x, ow) := by
  obtain ⟨h1, h2, h3⟩ := isAt_atOf x hr
  obtain ⟨j, hj⟩ := List.mem_iff_getElem?.1 hm
  obtain ⟨hjl, hje⟩ := List.getElem?_eq_some_iff.1 hj
  have hk : atOf x hs ≤ j := by
    rcases Nat.lt_or_ge j (atOf x hs) with h | h
    · have := h2 j hjl h; rw [hje] at this; simp at this
    · exact h
  rcases Nat.lt_or_eq_of_le hk with h | h
  · have hkl : atOf x hs < hs.length := by omega
    have p1 := List.pairwise_iff_getElem.1 hr (atOf x hs) j hkl hjl h
    have p2 := h3 (atOf x hs) hkl (Nat.le_refl _)
    rw [hje] at p1; simp at p1; omega
  · exact ⟨by omega, by simp only [h]; exact hje⟩

theorem found_mem {x ow : Int} {hs : List Hd} (hr : Rising hs) (hm : (x, ow) ∈ hs) : foundAt x hs (atOf x hs) = true := by
  obtain ⟨h, e⟩ := atOf_mem hr hm
  unfold foundAt
  rw [List.getElem?_eq_getElem h, e]
  simp

theorem owner_mem {x ow : Int} {hs : List Hd} (hr : Rising hs) (hm : (x, ow) ∈ hs) : ownerOf hs x = ow := by
  obtain ⟨h, e⟩ := atOf_mem hr hm
  obtain ⟨_, _, h3⟩ := owner_some (k := atOf x hs) hr (found_mem hr hm)
  rw [h3, e]

/-- What Take answers, and what there is behind it. -/
def okPorts (ps : List Int) : Bool := ps.all (fun p => decide (1 ≤ p) && decide (p ≤ 65535))
theorem okPorts_iff (ps : List Int) : okPorts ps = true ↔ allPorts ps := by simp [okPorts, allPorts, List.all_eq_true]
def takeRes (o : Int) (ps : List Int) (hs : List Hd) : Int × List Hd :=
  if o < 1 ∨ okPorts ps = false then (1, hs) else match takeAll o ps hs with | none => (150, hs) | some l => (0, l)

theorem takeRes_cases (o : Int) (ps : List Int) (hs : List Hd) : (takeRes o ps hs).2 = hs ∧ (takeRes o ps hs).1 ≠ 0 ∨ (takeRes o ps hs).1 = 0 ∧ allPorts ps ∧ 1 ≤ o ∧ takeAll o ps hs = some (takeRes o ps hs).2 := by
  unfold takeRes
  split
  · left; simp
  · rename_i h
    have h1 : okPorts ps = true := by cases hh : okPorts ps <;> simp_all
    have h2 : 1 ≤ o := by omega
    cases ht : takeAll o ps hs with
    | none => left; simp
    | some l => right; exact ⟨rfl, (okPorts_iff ps).1 h1, h2, rfl⟩

theorem takeRes_one {x ow : Int} {hs : List Hd} (hr : Rising hs) (hm : (x, ow) ∈ hs) (hx : 1 ≤ x ∧ x ≤ 65535) : takeRes 9 [x] hs = (150, hs) := by
  unfold takeRes
  have h1 : okPorts [x] = true := by simp [okPorts, hx.1, hx.2]
  have h2 : takeAll 9 [x] hs = none := by simp [takeAll, found_mem hr hm]
  simp [h1, h2]

theorem take_length {o : Int} {ps : List Int} {l l' : List Hd} (h : takeAll o ps l = some l') : l'.length = l.length + ps.length := by
  have := (takeAll_perm o ps l l' h).length_eq
  simp at this; omega

/-- What holds of what an owner has taken. -/
structure POk (ow : Int) (hs : List Hd) (ml : List Int) (i : Nat) : Prop where
  len : ml.length = (mine ow hs).length
  mem : ∀ x ∈ ml, (x, ow) ∈ hs ∧ 1 ≤ x ∧ x ≤ 65535
  few : hs.length ≤ 20 * i

theorem POk.nil (ow : Int) : POk ow [] [] 0 := ⟨rfl, by simp, by simp⟩
theorem POk.few_mine {ow : Int} {hs : List Hd} {ml : List Int} {i : Nat} (h : POk ow hs ml i) : ml.length ≤ 20 * i := by
  have h1 := h.len
  have h2 := h.few
  have h3 : (mine ow hs).length ≤ hs.length := by unfold mine; rw [List.length_map]; exact List.length_filter_le _ _
  omega

theorem POk.take {ow o : Int} {hs hs' : List Hd} {ml ps : List Int} {i : Nat} (h : POk ow hs ml i) (ht : takeAll o ps hs = some hs') (hall : allPorts ps) (hn : ps.length ≤ 20) :
    POk ow hs' (if o = ow then ml ++ ps else ml) (i + 1) := by
  have hp := takeAll_perm o ps hs hs' ht
  have hl := take_length ht
  refine ⟨?_, ?_, by have := h.few; omega⟩
  · rw [mine_perm ow hp, mine_app, mine_map]
    have := h.len
    split <;> simp <;> omega
  · intro x hx
    split at hx
    · rename_i ho
      subst ho
      rcases List.mem_append.1 hx with hx | hx
      · obtain ⟨h1, h2⟩ := h.mem x hx
        exact ⟨hp.mem_iff.2 (List.mem_append_right _ h1), h2⟩
      · exact ⟨hp.mem_iff.2 (List.mem_append_left _ (List.mem_map.2 ⟨x, hx, rfl⟩)), hall x hx⟩
    · obtain ⟨h1, h2⟩ := h.mem x hx
      exact ⟨hp.mem_iff.2 (List.mem_append_right _ h1), h2⟩

theorem POk.same {ow : Int} {hs : List Hd} {ml : List Int} {i : Nat} (h : POk ow hs ml i) : POk ow hs ml (i + 1) := ⟨h.len, h.mem, by have := h.few; omega⟩

theorem mem_without {o : Int} {hs : List Hd} {h : Hd} : h ∈ without o hs ↔ h ∈ hs ∧ h.2 ≠ o := by
  unfold without
  simp [List.mem_filter]

theorem POk.free {ow o : Int} {hs : List Hd} {ml : List Int} {i : Nat} (h : POk ow hs ml i) : POk ow (without o hs) (if o = ow then [] else ml) (i + 1) := by
  have hfew : (without o hs).length ≤ hs.length := by unfold without; exact List.length_filter_le _ _
  refine ⟨?_, ?_, by have := h.few; omega⟩
  · split
    · rename_i ho
      subst ho
      have : mine o (without o hs) = [] := by
        unfold mine
        rw [List.filter_eq_nil_iff.2]
        · rfl
        · intro a ha
          have := (mem_without.1 ha).2
          simpa using this
      rw [this]
    · rename_i ho
      rw [h.len]
      unfold mine without
      rw [List.filter_filter]
      congr 2
      apply List.filter_congr
      intro a _
      by_cases ha : a.2 = ow
      · have : a.2 ≠ o := fun e => ho (e.symm.trans ha)
        simp [ha]
        exact fun e => ho e.symm
      · simp [ha]
  · intro x hx
    split at hx
    · cases hx
    · rename_i ho
      obtain ⟨h1, h2⟩ := h.mem x hx
      exact ⟨mem_without.2 ⟨h1, fun e => ho e.symm⟩, h2⟩

/-! ### the invariant -/
structure PInv (B : Nat) (W : World) (p : Nat) (hs : List Hd) (mv : Value) (ml : List Int) (wr : World) : Prop where
  tab : ∃ v, TabAt wr p v hs ∧ ∀ g, v.ownBlock = some g → B ≤ g ∧ mv.ownBlock ≠ some g
  pB : B ≤ p
  sl : SlOf wr 3 1 encI mv ml
  mB : ∀ g, mv.ownBlock = some g → B ≤ g ∧ g ≠ p
  below : Below B W wr

theorem PInv.ris {B : Nat} {W : World} {p : Nat} {hs : List Hd} {mv : Value} {ml : List Int} {wr : World} (h : PInv B W p hs mv ml wr) : Rising hs := by
  obtain ⟨v, h1, _⟩ := h.tab
  exact h1.ris
theorem PInv.plt {B : Nat} {W : World} {p : Nat} {hs : List Hd} {mv : Value} {ml : List Int} {wr : World} (h : PInv B W p hs mv ml wr) : p < wr.heap.size := by
  obtain ⟨v, h1, _⟩ := h.tab
  exact h1.plt

theorem PInv.turn {B : Nat} {W : World} {p : Nat} {hs hs' : List Hd} {v v' mv : Value} {ml : List Int} {wr w2 : World} (h : PInv B W p hs mv ml wr) (hB : B ≤ wr.heap.size) (hv : ∀ g, v.ownBlock = some g → B ≤ g ∧ mv.ownBlock ≠ some g)
    (ht : TabAt w2 p v' hs') (hk : Keeps (fun i => i = p) wr w2) (hv' : ∀ g, v'.ownBlock = some g → v.ownBlock = some g ∨ wr.heap.size ≤ g) : PInv B W p hs' mv ml w2 :=
  ⟨⟨v', ht, fun g hg => by
    rcases hv' g hg with h1 | h1
    · exact hv g h1
    · exact ⟨by omega, fun e => by have := SlRow.lt h.sl e; omega⟩⟩, h.pB, SlRow.kept h.sl hk (fun g hg => (h.mB g hg).2), h.mB, h.below.trans (hk.below hB (fun i hi => hi ▸ h.pB))⟩

theorem PInv.kept {B : Nat} {W : World} {p : Nat} {hs : List Hd} {mv : Value} {ml : List Int} {wr w2 : World} (h : PInv B W p hs mv ml wr) (hB : B ≤ wr.heap.size) (hk : Keeps (fun _ => False) wr w2) : PInv B W p hs mv ml w2 := by
  obtain ⟨v, h1, h2⟩ := h.tab
  exact ⟨⟨v, h1.kept hk (by simp) (by simp), h2⟩, h.pB, SlRow.kept h.sl hk (by simp), h.mB, h.below.trans (hk.below hB (by simp))⟩

theorem PInv.alloc {B : Nat} {W : World} {p : Nat} {hs : List Hd} {mv : Value} {ml : List Int} {wr : World} (h : PInv B W p hs mv ml wr) (hB : B ≤ wr.heap.size) (o : Obj) : PInv B W p hs mv ml (wr.alloc o) :=
  h.kept hB ((Keeps.refl _ wr).alloc o)

/-- Another list of mine. -/
theorem PInv.mine {B : Nat} {W : World} {p : Nat} {hs : List Hd} {mv mv' : Value} {ml ml' : List Int} {wr w2 : World} (h : PInv B W p hs mv ml wr) (hB : B ≤ wr.heap.size) (hk : Keeps (fun i => mv.ownBlock = some i) wr w2) (hs' : SlOf w2 3 1 encI mv' ml')
    (hl : ∀ g, mv'.ownBlock = some g → mv.ownBlock = some g ∨ wr.heap.size ≤ g) : PInv B W p hs mv' ml' w2 := by
  obtain ⟨v, h1, h2⟩ := h.tab
  have hp := h1.plt
  refine ⟨⟨v, h1.kept hk (fun e => (h.mB p e).2 rfl) (fun g hg e => (h2 g hg).2 e), fun g hg => ⟨(h2 g hg).1, fun e => ?_⟩⟩, h.pB, hs', fun g hg => ?_, h.below.trans (hk.below hB (fun i hi => (h.mB i hi).1))⟩
  · rcases hl g e with h3 | h3
    · exact (h2 g hg).2 h3
    · have := SlRow.lt h1.sl hg; omega
  · rcases hl g hg with h3 | h3
    · exact h.mB g h3
    · exact ⟨by omega, by omega⟩

theorem below_keeps {w w' : World} (h : Below w.heap.size w w') (F : Nat → Prop) : Keeps F w w' := Keeps.of_below h

theorem take_any {w : World} {p : Nat} {v pv : Value} {l : List Hd} {ps : List Int} (h : TabAt w p v l) (hr : Rd w 1 encI pv ps) (hl : l.length + ps.length ≤ 40000) (o : Int) :
    Calls Try.prog 33 #[.pointer (some ⟨p, 0, none⟩), .int .i64 o, pv] w fun e w' => ∃ v', e = .returned (.int .i64 (takeRes o ps l).1) ∧ TabAt w' p v' (takeRes o ps l).2 ∧ Keeps (fun i => i = p) w w' ∧ ∀ g, v'.ownBlock = some g → v.ownBlock = some g ∨ w.heap.size ≤ g := by
  by_cases ho : o < 1
  · have e : takeRes o ps l = (1, l) := by simp [takeRes, ho]
    rw [e]
    exact (take_nobody p pv o ho).mono fun e w' ⟨h1, h2⟩ => ⟨v, h1, by rw [h2]; exact h, by rw [h2]; exact Keeps.refl _ _, fun g hg => .inl hg⟩
  · rcases first_bad ps with hall | ⟨j, hj, h1, h2⟩
    · have hok := (okPorts_iff ps).2 hall
      refine (take_go h hr hl o (by omega) hall).mono fun e w' hh => ?_
      rcases hh with ⟨ht, he, hb⟩ | ⟨l', v', ht, he, hT, hk, hg⟩
      · have e2 : takeRes o ps l = (150, l) := by simp [takeRes, ho, hok, ht]
        rw [e2]
        exact ⟨v, he, h.kept (below_keeps hb (fun _ => False)) (by simp) (by simp), below_keeps hb _, fun g hg => .inl hg⟩
      · have e2 : takeRes o ps l = (0, l') := by simp [takeRes, ho, hok, ht]
        rw [e2]
        exact ⟨v', he, hT, hk, fun g h => .inr (hg g h)⟩
    · have hno : okPorts ps = false := by
        cases hh : okPorts ps with
        | false => rfl
        | true => exact absurd ((okPorts_iff ps).1 hh _ (List.getElem_mem hj)) h1
      have e : takeRes o ps l = (1, l) := by simp [takeRes, hno]
      rw [e]
      exact (take_range hr (by omega) p o (by omega) hj h1 h2).mono fun e w' ⟨h1, h2⟩ => ⟨v, h1, by rw [h2]; exact h, by rw [h2]; exact Keeps.refl _ _, fun g hg => .inl hg⟩

section
variable {B : Nat} {W : World} {p : Nat} {hs : List Hd} {mv : Value} {ml : List Int} {wr : World}

theorem take_inv (h : PInv B W p hs mv ml wr) (hB : B ≤ wr.heap.size) {pv : Value} {ps : List Int} (hr : Rd wr 1 encI pv ps) (hl : hs.length + ps.length ≤ 40000) (o : Int) :
    Calls Try.prog 33 #[.pointer (some ⟨p, 0, none⟩), .int .i64 o, pv] wr fun e w' => e = .returned (.int .i64 (takeRes o ps hs).1) ∧ PInv B W p (takeRes o ps hs).2 mv ml w' ∧ Keeps (fun i => i = p) wr w' := by
  obtain ⟨v, h1, h2⟩ := h.tab
  exact (take_any h1 hr hl o).mono fun e w' ⟨v', he, hT, hk, hg⟩ => ⟨he, h.turn hB h2 hT hk hg, hk⟩

theorem free_inv (h : PInv B W p hs mv ml wr) (hB : B ≤ wr.heap.size) (hl : hs.length ≤ 40000) (o : Int) :
    Calls Try.prog 35 #[.pointer (some ⟨p, 0, none⟩), .int .i64 o] wr fun e w' => e = .returned (.int .i64 ((hs.length : Int) - (without o hs).length)) ∧ PInv B W p (without o hs) mv ml w' ∧ Keeps (fun i => i = p) wr w' := by
  obtain ⟨v, h1, h2⟩ := h.tab
  exact (free_any h1 (by omega) o).mono fun e w' ⟨v', he, hT, hk, hg⟩ => ⟨he, h.turn hB h2 hT hk (fun g hh => .inr (hg g hh)), hk⟩

theorem len_inv (h : PInv B W p hs mv ml wr) : Calls Try.prog 36 #[.pointer (some ⟨p, 0, none⟩)] wr fun e w' => e = .returned (.int .i64 hs.length) ∧ wr = w' := by
  obtain ⟨v, h1, h2⟩ := h.tab
  exact (len_any h1).mono fun e w' ⟨a, b⟩ => ⟨a, b.symm⟩

theorem owner_inv (h : PInv B W p hs mv ml wr) (hB : B ≤ wr.heap.size) (hl : hs.length ≤ 40000) (q : Int) :
    Calls Try.prog 37 #[.pointer (some ⟨p, 0, none⟩), .int .i64 q] wr fun e w' => e = .returned (.int .i64 (ownerOf hs q)) ∧ PInv B W p hs mv ml w' ∧ Keeps (fun i => i = p) wr w' := by
  obtain ⟨v, h1, h2⟩ := h.tab
  exact (owner_any h1 (by omega) q).mono fun e w' ⟨a, b⟩ => ⟨a, h.kept hB b, b.mono (by simp)⟩

theorem held_inv (h : PInv B W p hs mv ml wr) (hB : B ≤ wr.heap.size) (hl : hs.length ≤ 40000) (o : Int) :
    Calls Try.prog 39 #[.pointer (some ⟨p, 0, none⟩), .int .i64 o] wr fun e w' => ∃ a c, e = .returned (.slice a (mine o hs).length c) ∧ SlOf w' 3 1 encI (.slice a (mine o hs).length c) (mine o hs) ∧ (∀ g, Value.ownBlock (.slice a (mine o hs).length c) = some g → wr.heap.size ≤ g) ∧ PInv B W p hs mv ml w' ∧ Keeps (fun i => i = p) wr w' := by
  obtain ⟨v, h1, h2⟩ := h.tab
  refine (callsIn_wide.1 (held_in Fence.wide 3 trivial trivial trivial rfl (by omega) p v hs (by omega) o wr h1)).mono fun e w' ⟨v', he, ho, _, hb⟩ => ?_
  have hI := h.kept hB (below_keeps hb _)
  have hk := below_keeps hb (fun i => i = p)
  have hfl : (mine o hs).flatMap encI = (mine o hs).map (Value.int .i64) := by
    induction mine o hs with
    | nil => rfl
    | cons a r ih => simp [encI, ih]
  rcases ho.2 with ⟨rfl, hn⟩ | ⟨g, cap, cur, rfl, hg, hgb, q1, q2, q3, q4⟩
  · refine ⟨none, 0, by rw [he, hn], ?_, by simp [Value.ownBlock], hI, hk⟩
    unfold SlOf
    rw [hfl]
    exact ⟨ho.1, .inl ⟨by rw [hn], hn⟩⟩
  · refine ⟨_, cap, he, ?_, by simp [Value.ownBlock]; omega, hI, hk⟩
    unfold SlOf
    rw [hfl]
    exact ⟨ho.1, .inr ⟨g, 0, cap, cur, rfl, hgb, q1, q2, by omega, by rw [List.drop_zero]; exact q4⟩⟩
end
end Go.Proofs.Ytnceglkoolfncaa.Po
