/- Tickets: UIDs and Len, told by lists. -/
import Derived.Test.YtnceglkoolfncaaVb
set_option linter.unusedSimpArgs false
set_option linter.unusedVariables false
namespace Go.Proofs.Ytnceglkoolfncaa.Tp
open Go.RowKit Go.Pv

def encI (p : Int) : List Value := [.int .i64 p]
theorem flatI (l : List Int) : l.flatMap encI = l.map (Value.int .i64) := by
  induction l with
  | nil => rfl
  | cons a r ih => simp [encI, ih]
theorem sl_form {w : World} {v : Value} {l : List Int} (h : SlOf w 3 1 encI v l) : ∃ a c, v = .slice a l.length c := by
  rcases SlRow.form h with ⟨h1, h2⟩ | ⟨g, o', c', h1⟩
  · exact ⟨none, 0, by rw [h2]; exact h1⟩
  · exact ⟨_, _, h1⟩
theorem sl_cell {w : World} {a : Option Addr} {n c : Nat} {l : List Int} (h : SlOf w 3 1 encI (.slice a n c) l) {j : Nat} (hj : j < l.length) : ∃ b o, a = some ⟨b, o, none⟩ ∧ b < w.heap.size ∧ w.cell? ⟨b, o + j, none⟩ = some (.int .i64 l[j]) := by
  have hn : n = l.length := by obtain ⟨a', c', he⟩ := sl_form h; simp at he; exact he.2.1
  subst hn
  rcases SlRow.form h with ⟨h1, h2⟩ | ⟨g, o', c', h1⟩
  · omega
  · have ha : a = some ⟨g, o', none⟩ := by simp at h1; exact h1.1
    refine ⟨g, o', ha, SlRow.lt h (by rw [h1]; rfl), ?_⟩
    refine SlRow.cells h h1 j _ ?_
    rw [flatI, List.getElem?_map, List.getElem?_eq_getElem hj]; rfl
theorem sl_of_owns {w : World} {B : Nat} {v : Value} {l : List Int} (h : w.ownsRow B 3 1 v l.length (l.map (Value.int .i64))) : SlOf w 3 1 encI v l ∧ ∀ g, v.ownBlock = some g → B ≤ g := by
  unfold SlOf
  rw [flatI]
  rcases h.2 with ⟨rfl, hn⟩ | ⟨g, cap, cur, rfl, hg, hgb, q1, q2, q3, q4⟩
  · exact ⟨⟨h.1, .inl ⟨rfl, hn⟩⟩, by simp [Value.ownBlock]⟩
  · exact ⟨⟨h.1, .inr ⟨g, 0, cap, cur, rfl, hgb, q1, q2, by omega, by rw [List.drop_zero]; exact q4⟩⟩, by simp [Value.ownBlock]; omega⟩

theorem sorted_asc {ss : List Int} (hn : ss.Nodup) : Asc (ss.mergeSort (fun x y => decide (x ≤ y))) := by
  have h1 : (ss.mergeSort (fun x y => decide (x ≤ y))).Pairwise (fun a b => decide (a ≤ b) = true) :=
    List.pairwise_mergeSort (fun a b c h1 h2 => by simp at *; omega) (fun a b => by simp; omega) ss
  have h2 : (ss.mergeSort (fun x y => decide (x ≤ y))).Nodup := (List.mergeSort_perm ss _).nodup_iff.2 hn
  refine (h1.and h2).imp fun {a b} ⟨h3, h4⟩ => ?_
  simp at h3
  have : a ≠ b := h4
  omega

theorem uids_told {w : World} {p mb : Nat} {rows : TRows} (hc : w.cell? ⟨p, 0, none⟩ = some (.map (some mb))) (hm : MapSl w mb ki 30 3 encT rows) (hw : ∀ r ∈ rows, Wf r.1) (hl : rows.length ≤ 100000) :
    Calls Try.prog 52 #[.pointer (some ⟨p, 0, none⟩)] w fun e w' => ∃ a c su, e = .returned (.slice a su.length c) ∧ Asc su ∧ su.Perm (rows.map (·.1)) ∧ SlOf w' 3 1 encI (.slice a su.length c) su ∧ Below w.heap.size w w' := by
  refine (uids_any hc hm hw hl).mono fun e w' ⟨v, ss, he, hp, ho, _, hb⟩ => ?_
  have hlen : ss.length = (ss.mergeSort (fun x y => decide (x ≤ y))).length := (List.length_mergeSort ss).symm
  rw [hlen] at ho
  obtain ⟨h1, _⟩ := sl_of_owns ho
  obtain ⟨a, c, rfl⟩ := sl_form h1
  exact ⟨a, c, _, he, sorted_asc (hp.nodup_iff.2 hm.nodup), (List.mergeSort_perm ss _).trans hp, h1, hb⟩

theorem sumLen_snoc (rows : TRows) : ∀ (ks : List Int) (u : Int), sumLen rows (ks ++ [u]) = sumLen rows ks + (rl rows u).length
  | [], u => by simp [sumLen]
  | x :: r, u => by simp only [List.cons_append, sumLen]; rw [sumLen_snoc rows r u]; omega
theorem sumLen_le (rows : TRows) (h : ∀ u, (rl rows u).length ≤ 1000) : ∀ ks : List Int, sumLen rows ks ≤ 1000 * ks.length
  | [] => by simp [sumLen]
  | x :: r => by have := h x; have := sumLen_le rows h r; simp only [sumLen, List.length_cons]; omega

set_option maxRecDepth 10000 in
set_option maxHeartbeats 1000000 in
theorem len_any {w : World} {p mb : Nat} {rows : TRows} (hc : w.cell? ⟨p, 0, none⟩ = some (.map (some mb))) (hm : MapSl w mb ki 30 3 encT rows) (hw : ∀ r ∈ rows, Wf r.1) (hl : rows.length ≤ 1000) (hr : ∀ u, (rl rows u).length ≤ 1000) :
    Calls Try.prog 49 #[.pointer (some ⟨p, 0, none⟩)] w fun e w' => ∃ su, Asc su ∧ su.Perm (rows.map (·.1)) ∧ e = .returned (.int .i64 (sumLen rows su)) ∧ Below w.heap.size w w' := by
  have hp : p < w.heap.size := World.block_lt_of_cell? w _ hc
  have H52 := hid (uids_told hc hm hw (by omega))
  have HM := hid hm
  have HR := hid hr
  have HC := hid hc
  clear hm hr hw hc
  go_enter Try.func49, Try.ntmps49
  go_wp2_with (go_at_call 52; refine H52.out.mono ?_; rintro e w1 ⟨a, c, su, rfl, hA, hP, hS, hB⟩; have HA := hid hA; have HP := hid hP; have HS := hid hS; have HB := hid hB; clear hA hP hS hB)
  have hsu : su.length ≤ 1000 := by rw [HP.out.length_eq]; simpa using hl
  have hc1 : w1.cell? ⟨p, 0, none⟩ = some (.map (some mb)) := (HB.out.cell (p := ⟨p, 0, none⟩) hp).trans HC.out
  have hm1 : MapSl w1 mb ki 30 3 encT rows := HM.out.kept (Keeps.of_below (F := fun _ => False) HB.out) (by simp) (by simp)
  have HM1 := hid hm1
  clear hm1
  go_loopg [3, 5, 9] su.length (fun g nv uv iv wr => w1 = wr ∧ ∃ i : Nat, g = su.length - i ∧ i ≤ su.length ∧ iv = .int .i64 i ∧ nv = .int .i64 (sumLen rows (su.take i)))
  case atStart => exact ⟨rfl, 0, rfl, by omega, rfl, rfl⟩
  case round =>
    obtain ⟨rfl, i, rfl, hi, rfl, rfl⟩ := hrel
    have hle := sumLen_le rows HR.out (su.take i)
    rw [List.length_take] at hle
    by_cases hil : i < su.length
    · obtain ⟨b, o, rfl, hb, hcell⟩ := sl_cell HS.out hil
      have hsn : sumLen rows (su.take (i + 1)) = sumLen rows (su.take i) + (rl rows su[i]).length := by
        rw [List.take_add_one, List.getElem?_eq_getElem hil]; exact sumLen_snoc rows _ _
      obtain ⟨u, hu⟩ : ∃ u, u = su[i] := ⟨_, rfl⟩
      rw [← hu] at hcell hsn
      have hru : ((aget u rows).getD (.slice none 0 0, [])).2.length ≤ 1000 := HR.out u
      have LK := hid (look_rows HM1.out u)
      have LN := hid (run_len_sl (P := Try.prog) (ty := 3) Try.underlying26 (HM1.out.getD u))
      have HSN := hid hsn
      clear hu hsn
      obtain ⟨n, hn⟩ : ∃ n, n = sumLen rows (su.take i) := ⟨_, rfl⟩
      rw [← hn] at hle ⊢
      have HN := hid hn
      have hn2 : n ≤ 1000000 := by omega
      clear hn
      go_wp2_with (first
        | (at_lookup; refine wl_lookup rfl _ _ _ _ rfl ⟨_, _, LK.out, ?_⟩)
        | (at_len; refine wl_len rfl _ _ rfl ⟨_, _, LN.out, ?_⟩))
      go_roundg (su.length - (i + 1))
      case measure => omega
      case rel => exact ⟨rfl, i + 1, rfl, by omega, by go_num, by rw [HSN.out, ← HN.out]; exact congrArg (Value.int .i64) (by rw [Int.natCast_add]; rfl)⟩
    · have hie : i = su.length := by omega
      subst hie
      rw [List.take_length]
      go_wp2
      go_ret
      exact ⟨su, HA.out, HP.out, rfl, HB.out⟩
end Go.Proofs.Ytnceglkoolfncaa.Tp
