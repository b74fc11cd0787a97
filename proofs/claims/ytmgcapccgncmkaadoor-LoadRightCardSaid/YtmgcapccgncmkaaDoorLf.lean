/- Scripts: may an entry be (45.1)? -/
import Derived.Test.YtmgcapccgncmkaaDoorLe
set_option linter.unusedSimpArgs false
set_option linter.unusedVariables false
namespace Go.Proofs.YtmgcapccgncmkaaDoor.Ld
open Go.RowKit Go.Pv Go.Proofs.YtmgcapccgncmkaaDoor.PLoadScripts Go.Proofs.YtmgcapccgncmkaaDoorW.PrintWords Go.Proofs.YtmgcapccgncmkaaDoorW.PrintLast Go.Proofs.YtmgcapccgncmkaaDoorW.PrintMore

set_option maxRecDepth 10000 in
theorem tname_any (s : ByteArray) (w : World) (hG : Gl w) : Calls Tryd.prog 55 #[.string s] w fun e w' => e = .returned (.int .i64 (if nameB s then 0 else 30)) ∧ w' = w := by
  have HN := hid (fun (w : World) hG => name_any s w hG)
  cases hn : nameB s with
  | true =>
    rw [hn] at HN
    go_enter Tryd.func55, Tryd.ntmps55
    go_wp2_with (first | (go_at_call 86; go_must (with_reducible refine (HN.out _ hG).mono ?_); rintro e w1 ⟨rfl, rfl⟩) | go_in)
    go_ret
    exact ⟨rfl, rfl⟩
  | false =>
    rw [hn] at HN
    go_enter Tryd.func55, Tryd.ntmps55
    go_wp2_with (first | (go_at_call 86; go_must (with_reducible refine (HN.out _ hG).mono ?_); rintro e w1 ⟨rfl, rfl⟩) | go_in)
    go_ret
    exact ⟨rfl, rfl⟩

/-- What a verb is: its word, how many numbers, what data. -/
def vb (v : Int) : ByteArray × Int × Int := vtab.getD v.toNat (⟨#[]⟩, 0, 0)
def dataB (k : Int) (d : ByteArray) : Bool := if k = 1 then decide (d.size ≠ 0) && decide (d.size ≤ 1000) else if k = 2 then nameB d else decide (d.size = 0)
def numB (n : Int) : Bool := decide (0 ≤ n) && decide (n ≤ 1073741824)
def rightB (E : Ent) : Bool := decide (1 ≤ E.1) && decide (E.1 < 24) && decide ((E.2.1.length : Int) = (vb E.1).2.1) && E.2.1.all numB && dataB (vb E.1).2.2 E.2.2
theorem C_int_at {w : World} {A : Option Addr} {ns : List Int} (h : Kd.C (Kd.int .i64) w A ns.length ns) (j : Nat) (hj : j < ns.length) : ∃ b o, A = some ⟨b, o, none⟩ ∧ w.cell? ⟨b, o + j, none⟩ = some (.int .i64 ns[j]) := by
  obtain ⟨b, o, c, h1, _, cs, h2, h3⟩ := Rz.at_ (d := Kd.int .i64) (w := w) (v := .slice A ns.length ns.length) ⟨A, ns.length, rfl, Nat.le_refl _, h⟩ (by decide) j hj
  simp only [Value.slice.injEq] at h1
  refine ⟨b, o, h1.1, ?_⟩
  have h4 : cs = [.int .i64 ns[j]] := h2
  have := h3 0 (.int .i64 ns[j]) (by rw [h4]; rfl)
  simpa [Kd.int, Kd.scalar] using this
/-- Behind the tests at the head. -/
structure RH (w W : World) (v : Int) (ns : List Int) (A : Option Addr) (c : Nat) (d : ByteArray) : Prop where
  low : Below w.heap.size w W
  c0 : W.cell? ⟨w.heap.size, 0, none⟩ = some (.int .i64 v)
  c1 : W.cell? ⟨w.heap.size, 1, none⟩ = some (.slice A ns.length c)
  c2 : W.cell? ⟨w.heap.size, 2, none⟩ = some (.string d)
  gl : Gl W
  ns : Kd.C (Kd.int .i64) W A ns.length ns
theorem RH.start {w : World} {v : Int} {ns : List Int} {A : Option Addr} {c : Nat} {d : ByteArray} (hC : Kd.C (Kd.int .i64) w A ns.length ns) (hG : Gl w) (n : Nat) : RH w ((w.alloc (.cells #[.int .i64 v, .slice A ns.length c, .string d] 34)).drewN n) v ns A c d := by
  have hb : Below w.heap.size w ((w.alloc (.cells #[.int .i64 v, .slice A ns.length c, .string d] 34)).drewN n) := pw_below_drewN ((Below.refl _ w).alloc (Nat.le_refl _) _) n
  have hh : ((w.alloc (.cells #[.int .i64 v, .slice A ns.length c, .string d] 34)).drewN n).heap[w.heap.size]? = some (.cells #[.int .i64 v, .slice A ns.length c, .string d] 34 (0, 0)) := heap_alloc_new w _
  refine ⟨hb, ?_, ?_, ?_, hG.later hb, Kd.C_below hC hb⟩ <;> (rw [cell_of_row _ _ _ _ _ _ hh]; rfl)
theorem RH.tab {w W : World} {v : Int} {ns : List Int} {A : Option Addr} {c : Nat} {d : ByteArray} (h : RH w W v ns A c d) (h1 : 1 ≤ v) (h2 : v < 24) : W.cell? ⟨0, v.toNat * 3, none⟩ = some (.string (vb v).1) ∧ W.cell? ⟨0, v.toNat * 3 + 1, none⟩ = some (.int .i64 (vb v).2.1) ∧ W.cell? ⟨0, v.toNat * 3 + 2, none⟩ = some (.int .i64 (vb v).2.2) := by
  have hx : vtab[v.toNat]? = some (vb v) := by
    unfold vb
    rw [List.getD_eq_getElem?_getD, List.getElem?_eq_getElem (by show v.toNat < 24; omega)]
    rfl
  exact h.gl.verbs v.toNat _ hx
theorem vb_kind (v : Int) : (vb v).2.2 = 0 ∨ (vb v).2.2 = 1 ∨ (vb v).2.2 = 2 := by
  have h : ∀ i, ((vtab.getD i (⟨#[]⟩, 0, 0)).2.2 = 0 ∨ (vtab.getD i (⟨#[]⟩, 0, 0)).2.2 = 1 ∨ (vtab.getD i (⟨#[]⟩, 0, 0)).2.2 = 2) := by
    intro i
    by_cases hi : i < 24
    · have : ∀ i : Fin 24, ((vtab.getD i.1 (⟨#[]⟩, 0, 0)).2.2 = 0 ∨ (vtab.getD i.1 (⟨#[]⟩, 0, 0)).2.2 = 1 ∨ (vtab.getD i.1 (⟨#[]⟩, 0, 0)).2.2 = 2) := by decide
      exact this ⟨i, hi⟩
    · rw [List.getD_eq_getElem?_getD, List.getElem?_eq_none (by show 24 ≤ i; omega)]
      exact .inl rfl
  exact h v.toNat
set_option maxRecDepth 10000 in
set_option maxHeartbeats 1000000 in
theorem right_any (E : Ent) (A : Option Addr) (c : Nat) (w : World) (hC : Kd.C (Kd.int .i64) w A E.2.1.length E.2.1) (hc : E.2.1.length ≤ c) (hG : Gl w) :
    Calls Tryd.prog 24 #[.agg #[.int .i64 E.1, .slice A E.2.1.length c, .string E.2.2]] w fun e w' => e = .returned (.bool (rightB E)) ∧ Below w.heap.size w w' := by
  obtain ⟨v, ns, d⟩ := E
  simp only at hC hc ⊢
  have HR := hid (fun n => RH.start (v := v) (c := c) (d := d) hC hG n)
  have HG := hid hG
  clear hC hG
  by_cases h1 : 1 ≤ v
  · have b1 : decide (v < 1) = false := decide_eq_false (by omega)
    by_cases h2 : v < 24
    · have b2 : decide (v ≥ 24) = false := decide_eq_false (by omega)
      have h24 := hid (And.intro h1 h2)
      have b4 : (0 : Int) ≤ v := by omega
      obtain ⟨hv0, hv1, hv2⟩ := (HR.out 0).tab h1 h2
      have hv1' : (w.alloc (.cells #[.int .i64 v, .slice A ns.length c, .string d] 34)).cell? ⟨0, v.toNat * 3 + 1, none⟩ = some (.int .i64 (vb v).2.1) := hv1
      have hlt : 0 < w.heap.size := World.block_lt_of_cell? w _ (HG.out.marks 0 (by omega)) |> fun h => by simp only at h; omega
      have hne : (0 : Nat) ≠ w.heap.size := by omega
      clear hv0 hv1 hv2
      by_cases h3 : (ns.length : Int) = (vb v).2.1
      · have b3 : ((ns.length : Int) == (vb v).2.1) = true := by simpa using h3
        have HT := hid (fun (W : World) hG => tname_any d W hG)
        go_enter Tryd.func24, Tryd.ntmps24
        go_wp2
        go_quiet (fail)
        have HRn := hid (HR.out nq)
        obtain ⟨W0, hW0⟩ : ∃ W0, W0 = (w.alloc (.cells #[.int .i64 v, .slice A ns.length c, .string d] 34)).drewN nq := ⟨_, rfl⟩
        rw [← hW0] at HRn ⊢
        clear hW0 HR hv1' HG
        have c0 := HRn.out.c0
        have c1 := HRn.out.c1
        have c2 := HRn.out.c2
        obtain ⟨v0, v1, v2⟩ := HRn.out.tab h1 h2
        go_wp2_with fail
        go_loopg [4, 27] ns.length (fun q s4 s27 wr => ∃ j : Nat, s27 = .int .i64 j ∧ q = ns.length - j ∧ j ≤ ns.length ∧ W0 = wr ∧ Hid (∀ i (hi : i < ns.length), i < j → numB ns[i] = true))
        case atStart => exact ⟨0, rfl, by omega, by omega, rfl, fun i _ hi => by omega⟩
        case round =>
          obtain ⟨j, rfl, rfl, hj, rfl, HA⟩ := hrel
          by_cases hjn : j < ns.length
          · have b5 : decide ((j : Int) < (ns.length : Int)) = true := decide_eq_true (by omega)
            have hnl := HRn.out.ns.2.1
            have hw : wrap64 ((j : Int) + 1) = (j : Int) + 1 := by unfold wrap64; omega
            clear hnl
            obtain ⟨b, o, hA, hcell⟩ := C_int_at HRn.out.ns j hjn
            subst hA
            by_cases hn : numB ns[j] = true
            · have hn2 := hn
              unfold numB at hn2
              simp only [Bool.and_eq_true, decide_eq_true_eq] at hn2
              have b6 : decide (ns[j] < 0) = false := decide_eq_false (by omega)
              have b7 : decide (ns[j] > 1073741824) = false := decide_eq_false (by omega)
              clear hn2
              go_wp2_with fail
              go_roundg (ns.length - (j + 1))
              case measure => omega
              case rel =>
                refine ⟨j + 1, by simp [hw], rfl, by omega, rfl, fun i hi hij => ?_⟩
                by_cases hij2 : i = j
                · subst hij2; exact hn
                · exact HA.out i hi (by omega)
            · have hr : rightB (v, ns, d) = false := by
                have : ns.all numB = false := by
                  rw [List.all_eq_false]
                  exact ⟨ns[j], List.getElem_mem hjn, by simpa using hn⟩
                unfold rightB
                simp only [this, Bool.and_false, Bool.false_and]
              by_cases hz : ns[j] < 0
              · have b6 : decide (ns[j] < 0) = true := decide_eq_true hz
                go_wp2_with fail
                go_ret
                exact ⟨by first | rfl | (rw [hr]; rfl), HRn.out.low⟩
              · have b6 : decide (ns[j] < 0) = false := decide_eq_false hz
                have b7 : decide (ns[j] > 1073741824) = true := decide_eq_true (by unfold numB at hn; simp only [Bool.and_eq_true, decide_eq_true_eq] at hn; omega)
                go_wp2_with fail
                go_ret
                exact ⟨by first | rfl | (rw [hr]; rfl), HRn.out.low⟩
          · have b5 : decide ((j : Int) < (ns.length : Int)) = false := decide_eq_false (by omega)
            have hall : ns.all numB = true := by
              rw [List.all_eq_true]
              intro x hx
              obtain ⟨i, hi, rfl⟩ := List.getElem_of_mem hx
              exact HA.out i hi (by omega)
            have hr : rightB (v, ns, d) = dataB (vb v).2.2 d := by
              unfold rightB
              simp only [h1, h2, h3, hall, decide_true, Bool.true_and]
            have hE := isEmpty_size d
            have HGn := HRn.out.gl
            clear HA hall
            rcases vb_kind v with hk | hk | hk
            · rw [hk] at v2 hr
              have hr2 : dataB 0 d = decide (d.size = 0) := rfl
              by_cases hd : d.size = 0
              · rw [decide_eq_true hd] at hE hr2
                go_wp2_with fail
                go_ret
                exact ⟨by first | rfl | (rw [hr, hr2]; rfl) | (rw [hr2]; rfl), HRn.out.low⟩
              · rw [decide_eq_false hd] at hE hr2
                go_wp2_with fail
                go_ret
                exact ⟨by first | rfl | (rw [hr, hr2]; rfl) | (rw [hr2]; rfl), HRn.out.low⟩
            · rw [hk] at v2 hr
              have hr2 : dataB 1 d = (decide (d.size ≠ 0) && decide (d.size ≤ 1000)) := rfl
              by_cases hd : d.size = 0
              · have e0 : decide (d.size ≠ 0) = false := by simp [hd]
                rw [decide_eq_true hd] at hE
                rw [e0] at hr2
                go_wp2_with fail
                go_ret
                exact ⟨by first | rfl | (rw [hr, hr2]; rfl) | (rw [hr2]; rfl), HRn.out.low⟩
              · have e0 : decide (d.size ≠ 0) = true := by simpa using hd
                rw [decide_eq_false hd] at hE
                rw [e0] at hr2
                by_cases hd2 : d.size ≤ 1000
                · have b8 : decide ((d.size : Int) ≤ 1000) = true := decide_eq_true (by omega)
                  rw [decide_eq_true hd2] at hr2
                  go_wp2_with fail
                  go_ret
                  exact ⟨by first | rfl | (rw [hr, hr2]; rfl) | (rw [hr2]; rfl), HRn.out.low⟩
                · have b8 : decide ((d.size : Int) ≤ 1000) = false := decide_eq_false (by omega)
                  rw [decide_eq_false hd2] at hr2
                  go_wp2_with fail
                  go_ret
                  exact ⟨by first | rfl | (rw [hr, hr2]; rfl) | (rw [hr2]; rfl), HRn.out.low⟩
            · rw [hk] at v2 hr
              have hr2 : dataB 2 d = nameB d := rfl
              cases hn : nameB d with
              | true =>
                rw [hn] at HT hr2
                have HT2 : Hid (∀ W, Gl W → Calls Tryd.prog 55 #[.string d] W fun e w' => e = .returned (.int .i64 0) ∧ w' = W) := HT
                go_wp2_with (go_at_call 55; go_must (with_reducible refine (HT2.out _ HGn).mono ?_); rintro e w1 ⟨rfl, rfl⟩)
                go_ret
                exact ⟨by first | rfl | (rw [hr, hr2]; rfl) | (rw [hr2]; rfl), HRn.out.low⟩
              | false =>
                rw [hn] at HT hr2
                have HT2 : Hid (∀ W, Gl W → Calls Tryd.prog 55 #[.string d] W fun e w' => e = .returned (.int .i64 30) ∧ w' = W) := HT
                go_wp2_with (go_at_call 55; go_must (with_reducible refine (HT2.out _ HGn).mono ?_); rintro e w1 ⟨rfl, rfl⟩)
                go_ret
                exact ⟨by first | rfl | (rw [hr, hr2]; rfl) | (rw [hr2]; rfl), HRn.out.low⟩
      · have b3 : ((ns.length : Int) == (vb v).2.1) = false := by simpa using h3
        have hr : rightB (v, ns, d) = false := by
          unfold rightB
          simp only [decide_eq_false h3, Bool.and_false, Bool.false_and]
        rw [hr]
        clear hr
        go_enter Tryd.func24, Tryd.ntmps24
        go_wp2
        go_quiet (fail)
        go_wp2
        go_ret
        exact ⟨rfl, (HR.out nq).low⟩
    · have b2 : decide (v ≥ 24) = true := decide_eq_true (by omega)
      have hr : rightB (v, ns, d) = false := by simp [rightB, h2]
      rw [hr]
      clear hr
      go_enter Tryd.func24, Tryd.ntmps24
      go_wp2
      go_quiet (fail)
      go_wp2
      go_ret
      exact ⟨rfl, (HR.out nq).low⟩
  · have b1 : decide (v < 1) = true := decide_eq_true (by omega)
    have hr : rightB (v, ns, d) = false := by simp [rightB, h1]
    rw [hr]
    clear hr
    go_enter Tryd.func24, Tryd.ntmps24
    go_wp2
    go_quiet (fail)
    go_wp2
    go_ret
    exact ⟨rfl, (HR.out nq).low⟩
end Go.Proofs.YtmgcapccgncmkaaDoor.Ld
