/- The table of ports: the document's functions, as printed, answer as the table does. Plain. -/
import Derived.Test.YtnceglkoolfncaaQb
import Derived.Test.YtnceglkoolfncaaPk
namespace Go.Proofs.Ytnceglkoolfncaa.Po
open Go.RowKit Go.Pv Go.Proofs.Ytnceglkoolfncaa.PPortPlays Go.Proofs.YtnceglkoolfncaaW.PrintWords

def tS (h : Hd) : S75 := ⟨h.1, h.2⟩

theorem wrap_nat {i : Nat} (h : i ≤ 1000000) : wrap64 ((i : Int) + 1) = ((i + 1 : Nat) : Int) := by unfold wrap64; omega
theorem rd75 {hs : List Hd} {i : Nat} (h : i < hs.length) : rd_T75 (hs.map tS) (i : Int) = tS hs[i] := by
  unfold rd_T75
  simp [h]

theorem ownerOf_cons (x : Hd) (r : List Hd) (q : Int) : ownerOf (x :: r) q = if x.1 = q then x.2 else ownerOf r q := by
  unfold ownerOf
  rw [List.find?_cons]
  by_cases h : x.1 = q <;> simp [h]

theorem owner_l0 (hs : List Hd) (q : Int) (hl : hs.length ≤ 100000) : ∀ (d i k : Nat), d = hs.length - i → i ≤ hs.length → d < k → provostref15_Owner.l0 k (hs.map tS) q (i : Int) = some (ownerOf (hs.drop i) q) := by
  intro d
  induction d with
  | zero =>
    intro i k hd hi hk
    obtain ⟨k, rfl⟩ : ∃ m, k = m + 1 := ⟨k - 1, by omega⟩
    have : i = hs.length := by omega
    subst this
    simp only [provostref15_Owner.l0, List.length_map]
    rw [if_neg (by omega)]
    simp [ownerOf]
  | succ d ih =>
    intro i k hd hi hk
    obtain ⟨k, rfl⟩ : ∃ m, k = m + 1 := ⟨k - 1, by omega⟩
    have hil : i < hs.length := by omega
    simp only [provostref15_Owner.l0, List.length_map]
    rw [if_pos (by omega), if_pos (by omega), rd75 hil, List.drop_eq_getElem_cons hil, ownerOf_cons]
    by_cases h : hs[i].1 = q
    · rw [if_pos (by simpa [tS] using h), if_pos h]; rfl
    · rw [if_neg (by simpa [tS] using h), if_neg h, wrap_nat (by omega)]
      exact ih (i + 1) k (by omega) (by omega) (by omega)

theorem owner_f (hs : List Hd) (q : Int) (hl : hs.length ≤ 100000) (k : Nat) (hk : hs.length < k) : provostref15_Owner.f k (hs.map tS) q = some (ownerOf hs q) := by
  have := owner_l0 hs q hl hs.length 0 k (by omega) (by omega) hk
  simpa [provostref15_Owner.f] using this

theorem without_cons (o : Int) (x : Hd) (r : List Hd) : without o (x :: r) = if x.2 = o then without o r else x :: without o r := by
  unfold without
  rw [List.filter_cons]
  by_cases h : x.2 = o <;> simp [h]
theorem okPorts_cons (x : Int) (r : List Int) : okPorts (x :: r) = (decide (1 ≤ x) && decide (x ≤ 65535) && okPorts r) := by simp [okPorts]

theorem free_l0 (hs : List Hd) (o : Int) (hl : hs.length ≤ 100000) : ∀ (d i k : Nat) (acc : List S75), d = hs.length - i → i ≤ hs.length → acc.length ≤ i → d < k →
    provostref15_Free.l0 k (hs.map tS) o acc (i : Int) = some (acc ++ (without o (hs.drop i)).map tS, (hs.length : Int) - ((acc.length : Int) + (without o (hs.drop i)).length)) := by
  intro d
  induction d with
  | zero =>
    intro i k acc hd hi ha hk
    obtain ⟨k, rfl⟩ : ∃ m, k = m + 1 := ⟨k - 1, by omega⟩
    have : i = hs.length := by omega
    subst this
    simp only [provostref15_Free.l0, List.length_map]
    rw [if_neg (by omega)]
    have e : wrap64 ((hs.length : Int) - (acc.length : Int)) = (hs.length : Int) - (acc.length : Int) := by unfold wrap64; omega
    rw [e]
    simp [without]
  | succ d ih =>
    intro i k acc hd hi ha hk
    obtain ⟨k, rfl⟩ : ∃ m, k = m + 1 := ⟨k - 1, by omega⟩
    have hil : i < hs.length := by omega
    simp only [provostref15_Free.l0, List.length_map]
    rw [if_pos (by omega), if_pos (by omega), rd75 hil, List.drop_eq_getElem_cons hil]
    by_cases h : hs[i].2 = o
    · rw [if_pos (by simpa [tS] using h), wrap_nat (by omega), ih (i + 1) k acc (by omega) (by omega) (by omega) (by omega)]
      rw [without_cons, if_pos h]
    · rw [if_neg (by simpa [tS] using h), if_pos (by omega), wrap_nat (by omega), ih (i + 1) k _ (by omega) (by omega) (by simp; omega) (by omega)]
      rw [without_cons, if_neg h]
      simp [tS]
      omega

theorem free_f (hs : List Hd) (o : Int) (hl : hs.length ≤ 100000) : provostref15_Free.f (hs.length + 1) (hs.map tS) o = some ((without o hs).map tS, (hs.length : Int) - (without o hs).length) := by
  have := free_l0 hs o hl hs.length 0 (hs.length + 1) [] (by omega) (by omega) (by simp) (by omega)
  simpa [provostref15_Free.f] using this

theorem rdI {ps : List Int} {i : Nat} (h : i < ps.length) : rd ps (i : Int) = ps[i] := by unfold rd; simp [h]

theorem map_ins (o : Int) (hs : List Hd) (p : Int) : (hs.map tS).take (atOf p hs) ++ ([(⟨p, o⟩ : S75)] ++ (hs.map tS).drop (atOf p hs)) = (ins o hs p).map tS := by
  simp [ins, tS, List.map_take, List.map_drop]

theorem take_l2 (q : List S75) (o : Int) (ps : List Int) (hs : List Hd) (hr : Rising hs) (hl : hs.length ≤ 10000) (j : Nat) (hj : j < ps.length) (hps : ps.length ≤ 10000) (R : Nat) :
    ∀ (d i k : Nat), d = atOf ps[j] hs - i → i ≤ atOf ps[j] hs → R + d + 1 ≤ k → ∃ k', R ≤ k' ∧ provostref15_Take.l2 k q o ps (hs.map tS) (j : Int) (i : Int) = provostref15_Take.l1 k' q o ps ((ins o hs ps[j]).map tS) ((j + 1 : Nat) : Int) := by
  obtain ⟨h1, h2, h3⟩ := isAt_atOf ps[j] hr
  intro d
  induction d with
  | zero =>
    intro i k hd hi hk
    obtain ⟨k, rfl⟩ : ∃ m, k = m + 1 := ⟨k - 1, by omega⟩
    have hie : i = atOf ps[j] hs := by omega
    refine ⟨k, by omega, ?_⟩
    simp only [provostref15_Take.l2, List.length_map, rdI hj, Option.bind_some, Int.toNat_natCast]
    by_cases hil : i < hs.length
    · have hge : ¬ (tS hs[i]).f0 < ps[j] := by have := h3 i hil (by omega); simp only [tS]; omega
      rw [if_pos (by omega), if_pos (by omega), if_pos (by omega), if_pos (by omega), rd75 hil, if_neg hge, if_pos (by omega)]
      rw [if_pos (by simp; omega), if_pos (by simp; omega), if_pos (by simp; omega), wrap_nat (by omega), List.nil_append, hie, map_ins]
    · rw [if_neg (by omega), if_pos (by omega), if_pos (by omega), if_pos (by omega), if_pos (by omega)]
      rw [if_pos (by simp; omega), if_pos (by simp; omega), if_pos (by simp; omega), wrap_nat (by omega), List.nil_append, hie, map_ins]
  | succ d ih =>
    intro i k hd hi hk
    obtain ⟨k, rfl⟩ : ∃ m, k = m + 1 := ⟨k - 1, by omega⟩
    have hil : i < hs.length := by omega
    simp only [provostref15_Take.l2, List.length_map, rdI hj]
    have hlt : (tS hs[i]).f0 < ps[j] := by have := h2 i hil (by omega); simpa [tS] using this
    rw [if_pos (by omega), if_pos (by omega), if_pos (by omega), if_pos (by omega), rd75 hil, if_pos hlt, wrap_nat (by omega)]
    exact ih (i + 1) k (by omega) (by omega) (by omega)

/-- All owners are above 0. -/
def Owned (hs : List Hd) : Prop := ∀ h ∈ hs, 1 ≤ h.2

theorem owner_zero {hs : List Hd} (hr : Rising hs) (ho : Owned hs) (p : Int) : (ownerOf hs p = 0 ↔ foundAt p hs (atOf p hs) = false) := by
  cases hf : foundAt p hs (atOf p hs) with
  | false => simp [owner_none (isAt_atOf p hr) hr hf]
  | true =>
    obtain ⟨hk, _, he⟩ := owner_some hr hf
    have := ho _ (List.getElem_mem hk)
    simp; omega

theorem ins_owned {hs : List Hd} (ho : Owned hs) {o : Int} (h1 : 1 ≤ o) (p : Int) : Owned (ins o hs p) := by
  intro h hm
  rcases List.mem_cons.1 ((ins_perm o hs p).mem_iff.1 hm) with rfl | hm
  · exact h1
  · exact ho h hm

theorem take_l1 (N : Nat) (hN : 4000 ≤ N) (q : List S75) (o : Int) (h1 : 1 ≤ o) (ps : List Int) (hps : ps.length ≤ 1000) : ∀ (d j k : Nat) (hs : List Hd), d = ps.length - j → j ≤ ps.length → Rising hs → Owned hs → hs.length + d ≤ 3000 → d * N + 1 ≤ k →
    provostref15_Take.l1 k q o ps (hs.map tS) (j : Int) = some (match takeAll o (ps.drop j) hs with | none => (q, 150) | some l => (l.map tS, 0)) := by
  intro d
  induction d with
  | zero =>
    intro j k hs hd hj hr ho hl hk
    obtain ⟨k, rfl⟩ : ∃ m, k = m + 1 := ⟨k - 1, by omega⟩
    have : j = ps.length := by omega
    subst this
    simp only [provostref15_Take.l1]
    rw [if_neg (by omega), List.drop_length]
    rfl
  | succ d ih =>
    intro j k hs hd hj hr ho hl hk
    obtain ⟨k, rfl⟩ : ∃ m, k = m + 1 := ⟨k - 1, by omega⟩
    have hjl : j < ps.length := by omega
    rw [Nat.succ_mul] at hk
    simp only [provostref15_Take.l1]
    rw [if_pos (by omega), if_pos (by omega), rdI hjl, owner_f hs ps[j] (by omega) k (by omega), List.drop_eq_getElem_cons hjl, Option.bind_some]
    have hz := owner_zero hr ho ps[j]
    by_cases hf : ownerOf hs ps[j] = 0
    · rw [if_pos hf]
      have hff := hz.1 hf
      obtain ⟨k', hk', e⟩ := take_l2 q o ps hs hr (by omega) j hjl (by omega) (d * N + 1) (atOf ps[j] hs) 0 k (by omega) (by omega) (by have := (isAt_atOf ps[j] hr).1; omega)
      rw [Int.natCast_zero] at e
      rw [e, ih (j + 1) k' (ins o hs ps[j]) (by omega) (by omega) (ins_rising hr o hff) (ins_owned ho h1 _) (by rw [(ins_perm o hs ps[j]).length_eq]; simp; omega) hk']
      simp [takeAll, hff]
    · rw [if_neg hf]
      have hff : foundAt ps[j] hs (atOf ps[j] hs) = true := by
        cases h : foundAt ps[j] hs (atOf ps[j] hs) with
        | true => rfl
        | false => exact absurd (hz.2 h) hf
      simp [takeAll, hff]

theorem take_l0 (q : List S75) (o : Int) (ps : List Int) (hps : ps.length ≤ 1000) (M : Nat) (r : Option (List S75 × Int)) (hr : ∀ k, M ≤ k → provostref15_Take.l1 k q o ps q 0 = r) : ∀ (d j k : Nat), d = ps.length - j → j ≤ ps.length → M + d + 1 ≤ k →
    provostref15_Take.l0 k q o ps (j : Int) = if okPorts (ps.drop j) = true then r else some (q, 1) := by
  intro d
  induction d with
  | zero =>
    intro j k hd hj hk
    obtain ⟨k, rfl⟩ : ∃ m, k = m + 1 := ⟨k - 1, by omega⟩
    have : j = ps.length := by omega
    subst this
    simp only [provostref15_Take.l0]
    rw [if_neg (by omega), hr k (by omega), List.drop_length]
    simp [okPorts]
  | succ d ih =>
    intro j k hd hj hk
    obtain ⟨k, rfl⟩ : ∃ m, k = m + 1 := ⟨k - 1, by omega⟩
    have hjl : j < ps.length := by omega
    simp only [provostref15_Take.l0]
    rw [if_pos (by omega), if_pos (by omega), rdI hjl, List.drop_eq_getElem_cons hjl]
    rw [okPorts_cons]
    by_cases h1 : ps[j] < 1
    · rw [if_pos h1]
      have : decide (1 ≤ ps[j]) = false := by simp; omega
      simp [this]
    · rw [if_neg h1]
      have d1 : decide (1 ≤ ps[j]) = true := by simp; omega
      by_cases h2 : ps[j] > 65535
      · rw [if_pos h2]
        have : decide (ps[j] ≤ 65535) = false := by simp; omega
        simp [this]
      · rw [if_neg h2, wrap_nat (by omega), ih (j + 1) k (by omega) (by omega) (by omega)]
        have d2 : decide (ps[j] ≤ 65535) = true := by simp; omega
        simp [d1, d2]

theorem take_f (hs : List Hd) (o : Int) (ps : List Int) (hps : ps.length ≤ 1000) (hr : Rising hs) (ho : Owned hs) (hl : hs.length + ps.length ≤ 3000) (N : Nat) (hN : 4000 ≤ N) :
    provostref15_Take.f (ps.length * N + ps.length + 2) (hs.map tS) o ps = some ((takeRes o ps hs).2.map tS, (takeRes o ps hs).1) := by
  unfold provostref15_Take.f takeRes
  by_cases h1 : o < 1
  · rw [if_pos h1, if_pos (.inl h1)]
  · rw [if_neg h1]
    have e := take_l0 (hs.map tS) o ps hps (ps.length * N + 1) _ (fun k hk => by have := take_l1 N hN (hs.map tS) o (by omega) ps hps ps.length 0 k hs (by omega) (by omega) hr ho (by omega) hk; rw [Int.natCast_zero] at this; exact this) ps.length 0 (ps.length * N + ps.length + 2) (by omega) (by omega) (by omega)
    rw [Int.natCast_zero] at e
    rw [e, List.drop_zero]
    cases hok : okPorts ps with
    | false => simp
    | true =>
      simp only [if_true, h1, Bool.true_eq_false, or_self, if_false]
      cases takeAll o ps hs <;> rfl

theorem same_l0 (a b : List Int) (hab : a = b) (hl : a.length ≤ 100000) : ∀ (d i k : Nat), d = a.length - i → i ≤ a.length → d < k → provostbook_SameInts.l0 k a b true (i : Int) = some true := by
  subst hab
  intro d
  induction d with
  | zero =>
    intro i k hd hi hk
    obtain ⟨k, rfl⟩ : ∃ m, k = m + 1 := ⟨k - 1, by omega⟩
    simp only [provostbook_SameInts.l0]
    rw [if_pos trivial, if_neg (by omega)]
  | succ d ih =>
    intro i k hd hi hk
    obtain ⟨k, rfl⟩ : ∃ m, k = m + 1 := ⟨k - 1, by omega⟩
    simp only [provostbook_SameInts.l0]
    rw [if_pos trivial, if_pos (by omega), if_pos (by omega), if_pos (by omega), wrap_nat (by omega), beq_self_eq_true]
    exact ih (i + 1) k (by omega) (by omega) (by omega)
theorem same_f (a : List Int) (hl : a.length ≤ 100000) : provostbook_SameInts.f (a.length + 1) a a = some true := by
  have := same_l0 a a rfl hl a.length 0 (a.length + 1) (by omega) (by omega) (by omega)
  simpa [provostbook_SameInts.f] using this
end Go.Proofs.Ytnceglkoolfncaa.Po
