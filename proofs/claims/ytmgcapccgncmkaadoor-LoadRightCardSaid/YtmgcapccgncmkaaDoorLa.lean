/- Load: the plain draws and entries of a generator; the printed functions give them. -/
import Derived.Test.YtmgcapccgncmkaaDoorPLoadScriptsx1
import Derived.Test.YtmgcapccgncmkaaDoorPLoadScriptsx2
import Derived.IntWalk
import Derived.PlainAid
set_option linter.unusedSimpArgs false
set_option linter.unusedVariables false
namespace Go.Proofs.YtmgcapccgncmkaaDoor.Ld
open Go.RowKit Go.Proofs.YtmgcapccgncmkaaDoor.PLoadScripts Go.Proofs.YtmgcapccgncmkaaDoorW.PrintWords

/-- The generator's next number; a draw below n. -/
def nx (x : Int) : Int := IntKind.u64.wrap ((IntKind.u64.wrap (x * 6364136223846793005)) + 1442695040888963407)
def dr (x n : Int) : Int := if n < 1 then 0 else (nx x / 8589934592) % n
theorem nx_in (x : Int) : 0 ≤ nx x ∧ nx x ≤ 18446744073709551615 := by
  unfold nx
  rw [IntKind.wrap_u64 (IntKind.u64.wrap (x * 6364136223846793005) + 1442695040888963407)]
  omega
theorem dr_in (x n : Int) (h : 1 ≤ n) : 0 ≤ dr x n ∧ dr x n < n := by
  unfold dr
  rw [if_neg (by omega)]
  exact ⟨Int.emod_nonneg _ (by omega), Int.emod_lt_of_pos _ (by omega)⟩
theorem next_eq (x n : Int) : load_Gen_Next.f x n = some (dr x n, nx x) := by
  unfold load_Gen_Next.f dr
  by_cases h : n < 1
  · rw [if_pos h, if_pos h]; rfl
  · rw [if_neg h, if_neg h, if_neg (by omega)]
    have hb := nx_in x
    have e : wrap64 (nx x / 8589934592) = nx x / 8589934592 := by unfold wrap64; omega
    show some (Int.tmod (wrap64 (nx x / 8589934592)) n, nx x) = _
    rw [e, Int.tmod_eq_emod_of_nonneg (by omega)]
theorem rnext_eq (x n : Int) (hn : n ≤ 9223372036854775807) : provostref48_Next.f x n = some (nx x, dr x n) := by
  unfold provostref48_Next.f dr
  by_cases h : n < 1
  · rw [if_pos h, if_pos h]; rfl
  · have hb := nx_in x
    have en : IntKind.u64.wrap n = n := Go.PlainAid.u64_nonneg (by omega) (by omega)
    rw [if_neg h, if_neg h, en, if_neg (by omega)]
    show some (nx x, wrap64 (Int.tmod (IntKind.u64.wrap (Int.tdiv (nx x) 8589934592)) n)) = _
    have e1 : IntKind.u64.wrap (Int.tdiv (nx x) 8589934592) = nx x / 8589934592 := IntWalk.u64_quo _ _ ⟨hb.1, hb.2, by omega⟩
    have h2 : nx x / 8589934592 ≤ 2147483647 := by omega
    have h3 : 0 ≤ nx x / 8589934592 := by omega
    rw [e1, Int.tmod_eq_emod_of_nonneg h3]
    have h4 := Int.emod_nonneg (nx x / 8589934592) (b := n) (by omega)
    have h5 : (nx x / 8589934592) % n ≤ nx x / 8589934592 := by
      rcases Int.lt_or_le (nx x / 8589934592) n with h6 | h6
      · rw [Int.emod_eq_of_lt h3 h6]; exact Int.le_refl _
      · have := Int.emod_lt_of_pos (nx x / 8589934592) (b := n) (by omega); omega
    have e2 : wrap64 ((nx x / 8589934592) % n) = (nx x / 8589934592) % n := by unfold wrap64; omega
    rw [e2]

/-- An entry: its verb, its numbers, its data. -/
abbrev Ent := Int × List Int × ByteArray
def letter (x : Int) : ByteArray := strOfNums [97 + dr x 6]
/-- The entry whose kind is k, behind the draw of it. -/
def enk (k x : Int) : Ent × Int :=
  if k = 0 ∨ k = 1 then ((23, [1, 1 + dr x 3, dr (nx x) 40, dr (nx (nx x)) 40], letter (nx (nx (nx x)))), nx (nx (nx (nx x))))
  else if k = 2 then ((14, [1, 1 + dr x 4], ⟨#[]⟩), nx x)
  else if k = 3 then ((16, [1, 1 + dr x 4, dr (nx x) 3], ⟨#[]⟩), nx (nx x))
  else if k = 4 ∨ k = 5 then ((6, [], ⟨#[]⟩), x)
  else if k = 6 then ((5, [], ⟨#[]⟩), x)
  else if k = 7 then ((9, [1 + dr x 4, dr (nx x) 3, dr (nx (nx x)) 2], ⟨#[]⟩), nx (nx (nx x)))
  else if k = 8 then ((21, [1, 0], ⟨#[]⟩), x)
  else if k = 9 then ((3, [1], ⟨#[]⟩), x)
  else if k = 10 then ((7, [dr x 8], ⟨#[]⟩), nx x)
  else ((15, [1, 1 + dr x 4], ⟨#[]⟩), nx x)
def en (x : Int) : Ent × Int := enk (dr x 12) (nx x)

theorem w1 (x n : Int) (h : 1 ≤ n) (h2 : n ≤ 100) : wrap64 (1 + dr x n) = 1 + dr x n := by
  have := dr_in x n h
  unfold wrap64; omega
theorem w97 (x : Int) : (wrap64 (97 + dr x 6)) % 256 = 97 + dr x 6 := by
  have := dr_in x 6 (by omega)
  unfold wrap64; omega

theorem run_eq (x : Int) : load_Gen_run.f x = some (23, [1, 1 + dr x 3, dr (nx x) 40, dr (nx (nx x)) 40], letter (nx (nx (nx x))), nx (nx (nx (nx x)))) := by
  unfold load_Gen_run.f
  simp only [next_eq, Option.bind_some, w1 _ 3 (by omega) (by omega), w97, letter]

theorem j1_eq (k x : Int) (b : Bool) (hk : k ≠ 0 ∧ k ≠ 1 ∧ k ≠ 2 ∧ k ≠ 3) (hb : b = decide (k = 4 ∨ k = 5)) (n : Nat) : load_Gen_Entry.j1 (n + 1) k b x = some ((enk k x).1.1, (enk k x).1.2.1, (enk k x).1.2.2, (enk k x).2) := by
  simp only [load_Gen_Entry.j1, next_eq, Option.bind_some, load_plain.f, w1 _ 4 (by omega) (by omega)]
  obtain ⟨h0, h1, h2, h3⟩ := hk
  unfold enk
  rw [if_neg (show ¬ (k = 0 ∨ k = 1) by omega), if_neg h2, if_neg h3]
  by_cases h45 : k = 4 ∨ k = 5
  · rw [if_pos h45, if_pos (show b = true by rw [hb]; simp [h45])]
  · rw [if_neg h45, if_neg (show ¬ b = true by rw [hb]; simp [h45])]
    by_cases h6 : k = 6
    · rw [if_pos h6, if_pos h6]
    rw [if_neg h6, if_neg h6]
    by_cases h7 : k = 7
    · rw [if_pos h7, if_pos h7]
    rw [if_neg h7, if_neg h7]
    by_cases h8 : k = 8
    · rw [if_pos h8, if_pos h8]
    rw [if_neg h8, if_neg h8]
    by_cases h9 : k = 9
    · rw [if_pos h9, if_pos h9]
    rw [if_neg h9, if_neg h9]
    by_cases h10 : k = 10
    · rw [if_pos h10, if_pos h10]
    rw [if_neg h10, if_neg h10]
theorem entry_eq (x : Int) : load_Gen_Entry.f 2 x = some ((en x).1.1, (en x).1.2.1, (en x).1.2.2, (en x).2) := by
  unfold load_Gen_Entry.f en
  simp only [next_eq, Option.bind_some]
  generalize dr x 12 = k
  generalize nx x = y
  have hj0 : ∀ b : Bool, b = decide (k = 0 ∨ k = 1) → load_Gen_Entry.j0 2 k b y = some ((enk k y).1.1, (enk k y).1.2.1, (enk k y).1.2.2, (enk k y).2) := by
    intro b hb
    simp only [load_Gen_Entry.j0, next_eq, run_eq, Option.bind_some, load_plain.f, w1 _ 4 (by omega) (by omega)]
    by_cases h01 : k = 0 ∨ k = 1
    · rw [if_pos (show b = true by rw [hb]; simp [h01])]
      unfold enk
      rw [if_pos h01]
    · rw [if_neg (show ¬ b = true by rw [hb]; simp [h01])]
      by_cases h2 : k = 2
      · rw [if_pos h2]; unfold enk; rw [if_neg h01, if_pos h2]
      · rw [if_neg h2]
        by_cases h3 : k = 3
        · rw [if_pos h3]; unfold enk; rw [if_neg h01, if_neg h2, if_pos h3]
        · rw [if_neg h3]
          split
          · rename_i h4
            exact j1_eq k y _ ⟨by omega, by omega, h2, h3⟩ (by simp [h4]) 0
          · rename_i h4
            exact j1_eq k y _ ⟨by omega, by omega, h2, h3⟩ (by by_cases h5 : k = 5 <;> simp [h4, h5]) 0
  split
  · rename_i h; exact hj0 _ (by simp [h])
  · rename_i h; exact hj0 _ (by by_cases h5 : k = 1 <;> simp [h, h5])
end Go.Proofs.YtmgcapccgncmkaaDoor.Ld
