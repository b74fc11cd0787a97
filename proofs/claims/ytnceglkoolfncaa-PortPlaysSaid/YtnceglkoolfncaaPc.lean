/- The table of ports: Clone, IndexFunc, DeleteFunc, Free. -/
import Derived.Test.YtnceglkoolfncaaPb
import Derived.Test.YtnceglkoolfncaaSt
namespace Go.Proofs.Ytnceglkoolfncaa.Po
open Go.RowKit Go.Pv

theorem one_h (l : List Hd) : ∀ u ∈ l.flatMap encH, u.oneCell' = true := by
  intro u hu
  obtain ⟨t, _, ht⟩ := List.mem_flatMap.1 hu
  simp only [encH, List.mem_cons, List.not_mem_nil, or_false] at ht
  rcases ht with rfl | rfl <;> rfl

set_option maxRecDepth 10000 in
theorem clone_any {w : World} {v : Value} {l : List Hd} (h : SlOf w 181 2 encH v l) (hb : l.length ≤ 100000) :
    Calls Try.prog 102 #[v] w fun e w' => ∃ v', e = .returned v' ∧ SlOf w' 181 2 encH v' l ∧ Keeps (fun _ => False) w w' ∧ ∀ g, v'.ownBlock = some g → w.heap.size ≤ g := by
  obtain ⟨i0, hi, hz0, hz1, hz2⟩ := info181
  have he := fun (w : World) (a : Option Addr) (n c : Nat) => Lib.run_eql_slice_nil (P := Try.prog) w 176 181 a n c 0 0 Try.underlying176
  rcases SlRow.form h with ⟨rfl, hn⟩ | ⟨g, o, cap, hv⟩
  · have : l = [] := List.eq_nil_of_length_eq_zero hn
    subst this
    go_enter Try.func102, Try.ntmps102
    go_wp2
    go_ret
    exact ⟨_, rfl, SlRow.nil _ _ _, Keeps.refl _ _, by simp [Value.ownBlock]⟩
  · obtain ⟨v', w1, hr, hs, hk, hloc, -⟩ := run_append_sl (P := Try.prog) (w.alloc (.cells #[] 181)) 176 176 181 i0 _ 2 16 Try.underlying176 hi hz0 hz1 hz2 rfl
      _ 0 [] (SlRow.made w 181 2 0 #[] rfl (by unfold maxLen; omega)) v l.length (l.flatMap encH) (.inr ⟨⟨g, o, none⟩, cap, hv, fun j u hu => (SlRow.alloc h _).addcells hv j u hu⟩)
      h.1 (one_h l) (by unfold maxLen; omega) (by omega)
    have Hr := hid hr
    clear hr
    rw [hv] at Hr ⊢
    have Hs := hid hs
    have Hloc := hid hloc
    have Hk := hid hk
    clear hs hloc hk h hv hz0 hz1 hz2 hi
    go_enter Try.func102, Try.ntmps102
    go_wp2_with (at_builtin; refine wl_append rfl _ _ _ rfl ⟨_, _, Hr.out, ?_⟩)
    go_ret
    refine ⟨v', rfl, by have h9 := Hs.out; simp at h9; exact h9, ?_, ?_⟩
    · exact ((Keeps.refl _ w).alloc _).trans Hk.out (by intro i hi; right; simp [Value.ownBlock] at hi; omega)
    · intro g' hg'
      rcases Hloc.out with h1 | h1
      · rw [h1] at hg'; simp [Value.ownBlock] at hg'; omega
      · rw [h1] at hg'; simp at hg'; omega

set_option maxRecDepth 10000 in
theorem isOf_any (x ow o : Int) (b : Nat) {w : World} (hb : w.cell? ⟨b, 0, none⟩ = some (.int .i64 o)) :
    Calls Try.prog 106 #[.agg #[.int .i64 x, .int .i64 ow], .pointer (some ⟨b, 0, none⟩)] w fun e w' => e = .returned (.bool (ow == o)) ∧ Keeps (fun _ => False) w w' := by
  have hlt := World.block_lt_of_cell? _ _ hb
  go_enter Try.func106, Try.ntmps106
  go_wp2
  go_ret
  exact ⟨rfl, (Keeps.refl _ w).alloc _⟩

/-- None of them is an owner's. -/
def NoneOf (o : Int) (l : List Hd) : Prop := ∀ x ∈ l, (x.2 == o) = false

set_option maxRecDepth 10000 in
set_option maxHeartbeats 1000000 in
theorem index_any {w : World} {v : Value} {l : List Hd} (h : SlOf w 181 2 encH v l) (hl : l.length ≤ 100000) (o : Int) (b : Nat) (hb : w.cell? ⟨b, 0, none⟩ = some (.int .i64 o)) :
    Calls Try.prog 147 #[v, .func (.func 106) #[] #[.pointer (some ⟨b, 0, none⟩)]] w fun e w' =>
      ((e = .returned (.int .i64 (-1)) ∧ NoneOf o l) ∨ ∃ k : Nat, e = .returned (.int .i64 k) ∧ ∃ hk : k < l.length, (l[k].2 == o) = true ∧ NoneOf o (l.take k)) ∧ Keeps (fun _ => False) w w' := by
  obtain ⟨aa, ac, rfl, hcell⟩ := hform h
  have HC := hid hcell
  have HB := hid hb
  have HBL := hid (World.block_lt_of_cell? _ _ hb)
  have HK := hid (Keeps.refl (fun _ => False) w)
  clear h hcell hb
  go_enter Try.func147, Try.ntmps147
  go_wp2
  go_loopw [8] (fun iv wr => ∃ i : Nat, iv = .int .i64 i ∧ i ≤ l.length ∧ Hid (Keeps (fun _ => False) w wr) ∧ Hid (NoneOf o (l.take i))) (fun iv _ => l.length - (intOf iv).toNat)
  case atStart => exact ⟨0, rfl, by omega, HK, hid (by simp [NoneOf])⟩
  case round =>
    clear HK
    obtain ⟨i, rfl, hi, HK, HI⟩ := hrel
    by_cases hil : i < l.length
    · obtain ⟨ab, ao, haa, hab, hc1, hc2⟩ := HC.out i hil
      subst haa
      obtain ⟨x, hx⟩ : ∃ x, x = l[i] := ⟨_, rfl⟩
      rw [← hx] at hc1 hc2
      have HX := hid hx
      obtain ⟨x1, x2⟩ := x
      have d1 : wr.cell? ⟨ab, ao + i * 2, none⟩ = some (.int .i64 x1) := (HK.out.cell (p := ⟨ab, ao + i * 2, none⟩) hab (by simp)).trans hc1
      have d2 : wr.cell? ⟨ab, ao + i * 2 + 1, none⟩ = some (.int .i64 x2) := (HK.out.cell (p := ⟨ab, ao + i * 2 + 1, none⟩) hab (by simp)).trans hc2
      have hcl := isOf_any x1 x2 o b ((HK.out.cell (p := ⟨b, 0, none⟩) HBL.out (by simp)).trans HB.out)
      clear hc1 hc2 hx hab
      cases hxo : (x2 == o) with
      | true =>
        rw [hxo] at hcl
        have HCL := hid hcl
        clear hcl
        go_wp2_with (go_at_call 106; go_must (refine HCL.out.mono ?_; rintro e w' ⟨rfl, hk⟩; have HK2 := hid hk; clear hk))
        go_ret
        exact ⟨.inr ⟨i, rfl, hil, by rw [← HX.out]; exact hxo, HI.out⟩, HK.out.trans HK2.out (fun i h => .inl h)⟩
      | false =>
        rw [hxo] at hcl
        have HCL := hid hcl
        clear hcl
        go_wp2_with (go_at_call 106; go_must (refine HCL.out.mono ?_; rintro e w' ⟨rfl, hk⟩; have HK2 := hid hk; clear hk))
        go_roundw
        case rel =>
          refine ⟨i + 1, by go_num, by omega, hid (HK.out.trans HK2.out (fun i h => .inl h)), hid ?_⟩
          intro y hy
          rw [List.take_add_one, List.mem_append, List.getElem?_eq_getElem hil, ← HX.out] at hy
          rcases hy with hy | hy
          · exact HI.out y hy
          · simp at hy; subst hy; exact hxo
        case measure => simp [intOf]; omega
    · have hie : i = l.length := by omega
      have hnl : ¬ ((i : Int) < (l.length : Int)) := by omega
      have HIE := hid hie
      clear hie hil
      go_wp2
      go_ret
      exact ⟨.inl ⟨rfl, by have := HI.out; rw [HIE.out, List.take_length] at this; exact this⟩, HK.out⟩

theorem flat_set (l : List Hd) (i : Nat) (x : Hd) (h : i < l.length) : ((l.flatMap encH).set (i * 2) (.int .i64 x.1)).set (i * 2 + 1) (.int .i64 x.2) = (l.set i x).flatMap encH := by
  induction l generalizing i with
  | nil => simp at h
  | cons a r ih =>
    cases i with
    | zero => simp [encH]
    | succ i =>
      have := ih i (by simpa using h)
      simp only [List.flatMap_cons, List.set_cons_succ]
      rw [← this]
      have e1 : (i + 1) * 2 = i * 2 + 1 + 1 := by omega
      have e2 : (i + 1) * 2 + 1 = i * 2 + 1 + 1 + 1 := by omega
      rw [e1]
      simp [encH]

/-- All but an owner's. -/
abbrev without (o : Int) (l : List Hd) : List Hd := l.filter (fun h => !(h.2 == o))

theorem without_none {o : Int} {l : List Hd} (h : NoneOf o l) : without o l = l := by
  rw [List.filter_eq_self]
  intro x hx
  rw [h x hx]; rfl

theorem first_cases (o : Int) : ∀ l : List Hd, NoneOf o l ∨ ∃ k, ∃ hk : k < l.length, (l[k].2 == o) = true ∧ NoneOf o (l.take k)
  | [] => .inl (by simp [NoneOf])
  | a :: r => by
    cases ha : (a.2 == o) with
    | true => exact .inr ⟨0, by simp, ha, by simp [NoneOf]⟩
    | false =>
      rcases first_cases o r with h | ⟨k, hk, h1, h2⟩
      · refine .inl fun x hx => ?_
        rcases List.mem_cons.1 hx with rfl | hx
        · exact ha
        · exact h x hx
      · refine .inr ⟨k + 1, by simpa using hk, by simpa using h1, fun x hx => ?_⟩
        rw [List.take_succ_cons] at hx
        rcases List.mem_cons.1 hx with rfl | hx
        · exact ha
        · exact h2 x hx

theorem index_none {w : World} {v : Value} {l : List Hd} (h : SlOf w 181 2 encH v l) (hl : l.length ≤ 100000) (o : Int) (b : Nat) (hb : w.cell? ⟨b, 0, none⟩ = some (.int .i64 o)) (hn : NoneOf o l) :
    Calls Try.prog 147 #[v, .func (.func 106) #[] #[.pointer (some ⟨b, 0, none⟩)]] w fun e w' => e = .returned (.int .i64 (-1)) ∧ Keeps (fun _ => False) w w' := by
  refine (index_any h hl o b hb).mono ?_
  rintro e w' ⟨⟨rfl, -⟩ | ⟨k, -, hk, h1, -⟩, h2⟩
  · exact ⟨rfl, h2⟩
  · have := hn _ (List.getElem_mem hk)
    rw [this] at h1; cases h1

theorem index_some {w : World} {v : Value} {l : List Hd} (h : SlOf w 181 2 encH v l) (hl : l.length ≤ 100000) (o : Int) (b : Nat) (hb : w.cell? ⟨b, 0, none⟩ = some (.int .i64 o)) {k : Nat} (hk : k < l.length) (h1 : (l[k].2 == o) = true) (h2 : NoneOf o (l.take k)) :
    Calls Try.prog 147 #[v, .func (.func 106) #[] #[.pointer (some ⟨b, 0, none⟩)]] w fun e w' => e = .returned (.int .i64 k) ∧ Keeps (fun _ => False) w w' := by
  refine (index_any h hl o b hb).mono ?_
  rintro e w' ⟨⟨rfl, hn⟩ | ⟨k', rfl, hk', h1', h2'⟩, h3⟩
  · have := hn _ (List.getElem_mem hk)
    rw [this] at h1; cases h1
  · refine ⟨?_, h3⟩
    have e : k' = k := by
      rcases Nat.lt_trichotomy k' k with q | q | q
      · have : l[k'] ∈ l.take k := by rw [List.mem_iff_getElem?]; exact ⟨k', by rw [List.getElem?_take_of_lt q, List.getElem?_eq_getElem hk']⟩
        have := h2 _ this
        rw [this] at h1'; cases h1'
      · exact q
      · have : l[k] ∈ l.take k' := by rw [List.mem_iff_getElem?]; exact ⟨k, by rw [List.getElem?_take_of_lt q, List.getElem?_eq_getElem hk]⟩
        have := h2' _ this
        rw [this] at h1; cases h1
    rw [e]

theorem flat_len (l : List Hd) : (l.flatMap encH).length = l.length * 2 := by
  induction l with
  | nil => rfl
  | cons a r ih => rw [List.flatMap_cons, List.length_append, ih]; simp [encH]; omega

theorem flat_take (l : List Hd) (i : Nat) : (l.flatMap encH).take (i * 2) = (l.take i).flatMap encH := by
  induction l generalizing i with
  | nil => simp
  | cons a r ih =>
    cases i with
    | zero => simp
    | succ i =>
      rw [List.flatMap_cons, List.take_succ_cons, List.flatMap_cons, List.take_append, ← ih i]
      have : (encH a).length = 2 := rfl
      rw [this, List.take_of_length_le (by omega)]
      congr 2
      omega

theorem zero181 (w : World) : (zeroValue 181).run Try.prog w = .ok (.agg #[.int .i64 0, .int .i64 0]) w := by kernel_rfl

/-- On the way: i are kept of the first j. -/
structure DInv (w : World) (v : Value) (g : Nat) (o : Int) (l : List Hd) (i j : Nat) (wr : World) : Prop where
  ex : ∃ L, L.length = l.length ∧ SlOf wr 181 2 encH v L ∧ L.take i = without o (l.take j) ∧ L.drop j = l.drop j
  keep : Keeps (fun k => k = g) w wr

set_option maxRecDepth 10000 in
set_option maxHeartbeats 2000000 in
theorem delete_any {w : World} {v : Value} {l : List Hd} (h : SlOf w 181 2 encH v l) (hl : l.length ≤ 100000) (o : Int) (b : Nat) (hb : w.cell? ⟨b, 0, none⟩ = some (.int .i64 o)) (hvb : v.ownBlock ≠ some b) :
    Calls Try.prog 105 #[v, .func (.func 106) #[] #[.pointer (some ⟨b, 0, none⟩)]] w fun e w' => ∃ v', e = .returned v' ∧ SlOf w' 181 2 encH v' (without o l) ∧ Keeps (fun k => v.ownBlock = some k) w w' ∧ (∀ k, v'.ownBlock = some k → v.ownBlock = some k) := by
  rcases first_cases o l with hn | ⟨k, hk, hk1, hk2⟩
  · have HI := hid (index_none h hl o b hb hn)
    have H := hid h
    rw [without_none hn]
    clear h hn hvb
    go_enter Try.func105, Try.ntmps105
    go_wp2_with (go_at_call 147; go_must (refine HI.out.mono ?_; rintro e w1 ⟨rfl, hk1⟩; have HK1 := hid hk1; clear hk1))
    go_ret
    exact ⟨v, rfl, SlRow.kept H.out HK1.out (by simp), Keeps.mono HK1.out (by simp), fun k hk => hk⟩
  · have HI := hid (index_some h hl o b hb hk hk1 hk2)
    rcases SlRow.form h with ⟨rfl, hn⟩ | ⟨g, of, cap, hv⟩
    · omega
    · have HBL := hid (World.block_lt_of_cell? _ _ hb)
      have hgb : b ≠ g := fun e => hvb (by rw [hv, e]; rfl)
      have D0 : Hid (∀ w1, Keeps (fun _ => False) w w1 → DInv w v g o l k (k + 1) w1) := hid fun w1 k1 =>
        ⟨⟨l, rfl, SlRow.kept h k1 (by simp), by
          have e1 : l.take (k + 1) = l.take k ++ [l[k]] := by rw [List.take_add_one, List.getElem?_eq_getElem hk]; rfl
          rw [e1, without, List.filter_append]
          have e2 : List.filter (fun h => !(h.2 == o)) (l.take k) = l.take k := without_none hk2
          rw [e2]
          simp only [List.filter_cons, hk1]; simp, rfl⟩, Keeps.mono k1 (by simp)⟩
      have hg := SlRow.lt h (by rw [hv]; rfl : v.ownBlock = some g)
      have HV := hid hv
      have HB := hid hb
      rw [hv] at D0 HI ⊢
      have hkm : ((k : Int) == -1) = false := by simp
      clear h hvb hb hk1 hk2 hv
      go_enter Try.func105, Try.ntmps105
      go_wp2_with (go_at_call 147; go_must (refine HI.out.mono ?_; rintro e w1 ⟨rfl, hk1⟩; have HK1 := hid hk1; clear hk1))
      go_loopw [5, 6] (fun iv jv wr => ∃ i j : Nat, iv = .int .i64 i ∧ jv = .int .i64 j ∧ i < j ∧ j ≤ l.length ∧ Hid (DInv w (.slice (some ⟨g, of, none⟩) l.length cap) g o l i j wr)) (fun _ jv _ => l.length - (intOf jv).toNat)
      case atStart => exact ⟨k, k + 1, rfl, by go_num, by omega, by omega, hid (D0.out w1 HK1.out)⟩
      case round =>
        clear D0 HI HK1
        obtain ⟨i, j, rfl, rfl, hij, hjl, HD⟩ := hrel
        by_cases hj : j < l.length
        · obtain ⟨L, q1, q2, q3, q4⟩ := HD.out.ex
          obtain ⟨aa, ac, hv, hcell⟩ := hform q2
          simp only [Value.slice.injEq] at hv
          obtain ⟨rfl, -, -⟩ := hv
          have hLj : j < L.length := by omega
          obtain ⟨x, hx⟩ : ∃ x, x = L[j] := ⟨_, rfl⟩
          have hlj : l[j] = x := by
            have h1 : (L.drop j)[0]? = (l.drop j)[0]? := by rw [q4]
            rw [List.getElem?_drop, List.getElem?_drop, Nat.add_zero, List.getElem?_eq_getElem hLj, List.getElem?_eq_getElem hj] at h1
            simp at h1; rw [hx, ← h1]
          obtain ⟨ab, ao, haa, -, d1, d2⟩ := hcell j hLj
          rw [← hx] at d1 d2
          simp only [Option.some.injEq, Addr.mk.injEq, and_true] at haa
          obtain ⟨rfl, rfl⟩ := haa
          obtain ⟨x1, x2⟩ := x
          have hbw : wr.cell? ⟨b, 0, none⟩ = some (.int .i64 o) := (HD.out.keep.cell (p := ⟨b, 0, none⟩) HBL.out hgb).trans HB.out
          have hcl := isOf_any x1 x2 o b ((((Keeps.refl (fun _ => False) wr).alloc (.cells #[.int .i64 x1, .int .i64 x2] 181)).cell (p := ⟨b, 0, none⟩) (World.block_lt_of_cell? _ _ hbw) (by simp)).trans hbw)
          have hks : SlOf (wr.alloc (.cells #[.int .i64 x1, .int .i64 x2] 181)) 181 2 encH (.slice (some ⟨g, of, none⟩) l.length cap) L := SlRow.alloc q2 _
          have HQ2 := hid q2
          have HQ3 := hid q3
          have HQ4 := hid q4
          have HX := hid hx
          have HLJ := hid hlj
          have hjj1 : (0 : Int) ≤ (j : Int) := by omega
          have hjj2 : (j : Int) < (l.length : Int) := by omega
          have bx : (wr.alloc (.cells #[.int .i64 x1, .int .i64 x2] 181)).heap[wr.heap.size]? = some (.cells #[.int .i64 x1, .int .i64 x2] 181 (0, 0)) := heap_at _ _ _ rfl
          have HBX := hid bx
          have ej : IntKind.i64.wrap ((j : Int) + 1) = (j : Int) + 1 := IntWalk.i64_in _ (by omega)
          have ei : IntKind.i64.wrap ((i : Int) + 1) = (i : Int) + 1 := IntWalk.i64_in _ (by omega)
          clear q2 q3 q4 hx hlj hcell hbw bx
          cases hxo : (x2 == o) with
          | true =>
            rw [hxo] at hcl
            have HCL := hid hcl
            clear hcl hks
            go_wp2_with (go_at_call 106; go_must (refine HCL.out.mono ?_; rintro e w2 ⟨rfl, hk⟩; have HK2 := hid hk; clear hk))
            go_roundw
            case rel =>
              have kk := ((Keeps.refl (fun k => k = g) wr).alloc (.cells #[.int .i64 x1, .int .i64 x2] 181)).trans (Keeps.mono (F' := fun k => k = g) HK2.out (by simp)) (fun i hi => .inl hi)
              refine ⟨i, j + 1, rfl, by go_num, by omega, by omega, hid ⟨⟨L, q1, SlRow.kept (SlRow.alloc HQ2.out (.cells #[.int .i64 x1, .int .i64 x2] 181)) HK2.out (by simp), ?_, ?_⟩, HD.out.keep.trans kk (fun i hi => .inl hi)⟩⟩
              · rw [HQ3.out, List.take_add_one, List.getElem?_eq_getElem hj, HLJ.out, without, without, List.filter_append]
                simp [hxo]
              · rw [← List.drop_drop, ← List.drop_drop, HQ4.out]
            case measure => simp [intOf]; omega
          | false =>
            rw [hxo] at hcl
            have HCL := hid hcl
            have HKS := hid hks
            clear hcl hks
            have HCC : Hid (∀ w2, Keeps (fun _ => False) (wr.alloc (.cells #[.int .i64 x1, .int .i64 x2] 181)) w2 →
                w2.cell? ⟨wr.heap.size, 0, none⟩ = some (.int .i64 x1) ∧ w2.cell? ⟨wr.heap.size, 1, none⟩ = some (.int .i64 x2) ∧ (∃ y, w2.cell? ⟨g, of + i * 2, none⟩ = some y) ∧ (∃ y, w2.cell? ⟨g, of + i * 2 + 1, none⟩ = some y) ∧
                w2.frozen? ⟨g, of + i * 2, none⟩ = false ∧ w2.frozen? ⟨g, of + i * 2 + 1, none⟩ = false) := hid fun w2 k2 => by
              have hb2 := (k2.block wr.heap.size (by simp) (by simp)).trans HBX.out
              have hs2 := SlRow.kept HKS.out k2 (by simp)
              obtain ⟨aa, ac, hv, hcell⟩ := hform hs2
              simp only [Value.slice.injEq] at hv
              obtain ⟨rfl, -, -⟩ := hv
              obtain ⟨ab, ao, haa, -, e1, e2⟩ := hcell i (by omega)
              simp only [Option.some.injEq, Addr.mk.injEq, and_true] at haa
              obtain ⟨rfl, rfl⟩ := haa
              obtain ⟨cur, hcur⟩ := SlRow.elem hs2 (by rfl : Value.ownBlock (.slice (some ⟨g, of, none⟩) l.length cap) = some g)
              exact ⟨by rw [cell_of_row _ _ _ _ _ _ hb2]; rfl, by rw [cell_of_row _ _ _ _ _ _ hb2]; rfl, ⟨_, e1⟩, ⟨_, e2⟩, frozen_of_row _ _ _ _ _ hcur, frozen_of_row _ _ _ _ _ hcur⟩
            have ii1 : (0 : Int) ≤ (i : Int) := by omega
            have ii2 : (i : Int) < (l.length : Int) := by omega
            go_wp2_with (go_at_call 106; go_must (refine HCL.out.mono ?_; rintro e w2 ⟨rfl, hk⟩; obtain ⟨z0, z1, ⟨y0, z2⟩, ⟨y1, z3⟩, z4, z5⟩ := HCC.out w2 hk; have HK2 := hid hk; clear hk))
            go_roundw
            case rel =>
              have hs2 := SlRow.kept HKS.out HK2.out (by simp)
              rw [q1] at hs2
              have s1 := SlRow.setCell hs2 rfl (i * 2) (.int .i64 x1) (by omega)
              have s2 := SlRow.setCell s1 rfl (i * 2 + 1) (.int .i64 x2) (by omega)
              rw [flat_set L i (x1, x2) (by omega)] at s2
              have s3 : SlOf ((w2.setCell ⟨g, of + i * 2, none⟩ (.int .i64 x1)).setCell ⟨g, of + i * 2 + 1, none⟩ (.int .i64 x2)) 181 2 encH (.slice (some ⟨g, of, none⟩) l.length cap) (L.set i (x1, x2)) := by
                unfold SlOf; rw [List.length_set, q1]; exact s2
              have kk := (((Keeps.refl (fun k => k = g) wr).alloc (.cells #[.int .i64 x1, .int .i64 x2] 181)).trans (Keeps.mono (F' := fun k => k = g) HK2.out (by simp)) (fun i hi => .inl hi))
              have kk2 := (kk.setCell ⟨g, of + i * 2, none⟩ (.int .i64 x1) (.inl rfl)).setCell ⟨g, of + i * 2 + 1, none⟩ (.int .i64 x2) (.inl rfl)
              refine ⟨i + 1, j + 1, by go_num, by go_num, by omega, by omega, hid ⟨⟨L.set i (x1, x2), by rw [List.length_set]; exact q1, s3, ?_, ?_⟩, HD.out.keep.trans kk2 (fun i hi => .inl hi)⟩⟩
              · rw [List.take_add_one, List.getElem?_set_self (by omega), List.take_set, List.set_eq_of_length_le (by rw [List.length_take]; omega), HQ3.out, List.take_add_one (l := l), List.getElem?_eq_getElem hj, HLJ.out, without, without, List.filter_append]
                simp [hxo]
              · rw [List.drop_set_of_lt (by omega), ← List.drop_drop, ← List.drop_drop, HQ4.out]
            case measure => simp [intOf]; omega
        · have hje : j = l.length := by omega
          have hnl : ¬ ((j : Int) < (l.length : Int)) := by omega
          obtain ⟨L, q1, q2, q3, q4⟩ := HD.out.ex
          have hcap : l.length ≤ cap := by
            rcases q2.2 with ⟨hh, _⟩ | ⟨g', o', cap', cur, hh, _, r1, _⟩
            · cases hh
            · simp only [Value.slice.injEq] at hh
              obtain ⟨-, -, rfl⟩ := hh
              omega
          obtain ⟨i0, hi0, hz0, hz1, hz2⟩ := info181
          have hs1 := run_slice_from' (P := Try.prog) Try.underlying176 hi0 g of l.length cap i (by omega) (by omega)
          rw [hz1] at hs1
          have q2' : SlRow wr 181 2 (.slice (some ⟨g, of, none⟩) l.length cap) l.length (L.flatMap encH) := by have := q2; unfold SlOf at this; rw [q1] at this; exact this
          obtain ⟨w4, c1, c2, c3, c4⟩ := SlRow.clear (P := Try.prog) (t := 176) (ty := 0) q2' Try.underlying176 zero181 rfl (by simp [Value.oneCell', Value.cells]) rfl i (cap - i) (by omega)
          have hi2 : SlRow w4 181 i0.size (.slice (some ⟨g, of, none⟩) l.length cap) l.length ((L.flatMap encH).take (i * 2) ++ (Builtin.zeroCells (Value.agg #[.int .i64 0, .int .i64 0]).cells (l.length - i)).toList) := by rw [hz1]; exact c2
          obtain ⟨v1, t1, t2, t3⟩ := run_slice_to (P := Try.prog) Try.underlying176 hi0 hi2 i (by omega)
          have HC1 := hid c1
          have HT2 := hid t2
          have HT3 := hid t3
          have HC3 := hid c3
          have HQ3 := hid q3
          have HQ1 := hid q1
          have HJE := hid hje
          have HZ1 := hid hz1
          clear c1 c2 c3 q2 q2' q3 q4 hi2 t2 t3 hi0 hz0 hz1 hz2 hje hj
          have c1 := HC1.out
          go_wp2
          go_ret
          refine ⟨v1, rfl, ?_, ?_, ?_⟩
          · have h2 := HT2.out
            rw [HZ1.out] at h2
            have e1 : (L.flatMap encH).take (i * 2) = (L.take i).flatMap encH := by
              rw [← flat_take]
            have e2 : l.take j = l := by rw [HJE.out, List.take_length]
            have e3 : (L.take i).length = i := by rw [List.length_take, HQ1.out]; omega
            rw [List.take_append_of_le_length (by rw [List.length_take, flat_len, HQ1.out]; omega), List.take_take, Nat.min_self, e1, HQ3.out, e2] at h2
            have e4 : (without o l).length = i := by rw [← e3, HQ3.out, e2]
            unfold SlOf
            rw [e4]
            exact h2
          · exact Keeps.mono (HD.out.keep.trans HC3.out (fun i hi => .inl hi)) (fun i hi => by rw [hi]; rfl)
          · intro k hk
            rw [HT3.out] at hk; exact hk
end Go.Proofs.Ytnceglkoolfncaa.Po
