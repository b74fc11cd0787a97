/- Scripts: the walk of Read (45.2): what was written is read. -/
import Derived.Test.YtmgcapccgncmkaaDoorMe
set_option linter.unusedSimpArgs false
set_option linter.unusedVariables false
namespace Go.Proofs.YtmgcapccgncmkaaDoor.Ld
open Go.RowKit Go.Pv Go.Proofs.YtmgcapccgncmkaaDoor.PLoadScripts Go.Proofs.YtmgcapccgncmkaaDoorW.PrintWords Go.Proofs.YtmgcapccgncmkaaDoorW.PrintLast Go.Proofs.YtmgcapccgncmkaaDoorW.PrintMore

/-! ### no line holds a line's end -/
theorem vis_dig (n : Int) (h0 : 0 ≤ n) (h1 : n ≤ 1073741824) : (10 : UInt8) ∉ (ntext n).data.toList := by
  obtain ⟨_, f2, _, _⟩ := digs_form n h0 h1
  unfold ntext strOfNums
  intro h
  simp only [List.mem_map] at h
  obtain ⟨c, hc, he⟩ := h
  have := f2 c hc
  unfold Dig at this
  have h3 := congrArg UInt8.toNat he
  simp only [UInt8.toNat_ofNat'] at h3
  have h4 : (10 : UInt8).toNat = 10 := rfl
  omega
theorem vis_name {d : ByteArray} (h : nameB d = true) : (10 : UInt8) ∉ d.data.toList := by
  intro hm
  unfold nameB at h
  simp only [Bool.and_eq_true] at h
  have ha := h.1.1.2
  unfold allB at ha
  rw [List.all_eq_true] at ha
  obtain ⟨i, hi, he⟩ := List.getElem_of_mem hm
  have hi2 : i < d.size := by rw [Array.length_toList] at hi; exact hi
  have h2 := ha i (List.mem_range.2 hi2)
  have hb := bt_at d (i : Int) (by simpa using hi2)
  simp only [Int.toNat_natCast] at hb
  have h4 : d[i]'hi2 = 10 := by
    have : d.data.toList[i] = d.data[i] := Array.getElem_toList _
    rw [this] at he
    exact he
  rw [h4] at hb
  rw [← hb] at h2
  revert h2
  decide
theorem vis_word (v : Int) : (10 : UInt8) ∉ (vb v).1.data.toList := by
  have h : ∀ i : Nat, (10 : UInt8) ∉ (vtab.getD i (⟨#[]⟩, 0, 0)).1.data.toList := by
    intro i
    by_cases hi : i < 24
    · have : ∀ i : Fin 24, (10 : UInt8) ∉ (vtab.getD i.val (⟨#[]⟩, 0, 0)).1.data.toList := by decide
      exact this ⟨i, hi⟩
    · rw [List.getD_eq_getElem?_getD, List.getElem?_eq_none (by show 24 ≤ i; omega)]
      simp
  exact h v.toNat
theorem parts_vis {E : Ent} (h : okE E) : ∀ y ∈ partsL E, (10 : UInt8) ∉ y.data.toList := by
  intro y hy
  unfold partsL heads at hy
  rw [List.mem_append, List.mem_cons] at hy
  rcases hy with (rfl | hy) | hy
  · exact vis_word _
  · obtain ⟨n, hn, rfl⟩ := List.mem_map.1 hy
    have := rightB_nums h.1 n hn
    exact vis_dig n this.1 (by omega)
  · rcases okE_data h with ⟨hk, _⟩ | ⟨hk, hd⟩
    · rw [if_neg (by rw [hk]; decide)] at hy
      simp at hy
    · rw [if_pos hk, List.mem_singleton] at hy
      subst hy
      exact vis_name hd
theorem join_mem {c : UInt8} {sep : List UInt8} (hs : c ∉ sep) : ∀ (xs : List (List UInt8)), (∀ x ∈ xs, c ∉ x) → c ∉ Lib.join xs sep
  | [], _ => by rw [Lib.join_nil]; simp
  | x :: r, h => by
    rw [Lib.join_cons]
    unfold Lib.joinTail
    intro hm
    rcases List.mem_append.1 hm with h1 | h1
    · exact h x (by simp) h1
    · obtain ⟨l, hl, hc⟩ := List.mem_flatten.1 h1
      obtain ⟨y, hy, rfl⟩ := List.mem_map.1 hl
      rcases List.mem_append.1 hc with h2 | h2
      · exact hs h2
      · exact h y (List.mem_cons_of_mem _ hy) h2
theorem line_vis {E : Ent} (h : okE E) : (10 : UInt8) ∉ (lineL E).data.toList := by
  show (10 : UInt8) ∉ Lib.join ((partsL E).map (·.data.toList)) [32]
  refine join_mem (by decide) _ (fun x hx => ?_)
  obtain ⟨y, hy, rfl⟩ := List.mem_map.1 hx
  exact parts_vis h y hy
/-- The pieces of a text. -/
def pieces (es : List Ent) : List ByteArray := es.map lineL ++ [⟨#[]⟩]
theorem writeL_join : ∀ (es : List Ent), writeL es = Lib.join ((pieces es).map (·.data.toList)) [10]
  | [] => rfl
  | e :: es => by
    have ih := writeL_join es
    obtain ⟨p, ps, hp⟩ : ∃ p ps, pieces es = p :: ps := by
      unfold pieces
      cases es with
      | nil => exact ⟨_, _, rfl⟩
      | cons a r => exact ⟨_, _, rfl⟩
    have e1 : writeL (e :: es) = wline e ++ writeL es := by unfold writeL; simp
    have e2 : pieces (e :: es) = lineL e :: pieces es := rfl
    rw [e1, ih, e2, hp, List.map_cons, List.map_cons, Lib.join_cons, Lib.join_cons]
    unfold wline Lib.joinTail
    simp
theorem text_split (es : List Ent) (hes : ∀ e ∈ es, okE e) : Lib.countB ⟨(writeL es).toArray⟩ ⟨#[10]⟩ + 1 = (pieces es).length ∧ Lib.splitB ⟨#[10]⟩ 0 (Lib.countB ⟨(writeL es).toArray⟩ ⟨#[10]⟩) ⟨(writeL es).toArray⟩ = pieces es := by
  have hv : ∀ y ∈ pieces es, (10 : UInt8) ∉ y.data.toList := by
    intro y hy
    unfold pieces at hy
    rcases List.mem_append.1 hy with h | h
    · obtain ⟨e, he, rfl⟩ := List.mem_map.1 h
      exact line_vis (hes e he)
    · rw [List.mem_singleton] at h; subst h; simp
  rw [writeL_join es]
  obtain ⟨p, ps, hp⟩ : ∃ p ps, pieces es = p :: ps := by
    unfold pieces
    cases es with
    | nil => exact ⟨_, _, rfl⟩
    | cons a r => exact ⟨_, _, rfl⟩
  rw [hp] at hv ⊢
  have hs := split_join 10 ps p hv
  refine ⟨by rw [hs.1]; rfl, by rw [hs.1]; exact hs.2⟩
theorem tsplit_any (es : List Ent) (hes : ∀ e ∈ es, okE e) (hl : es.length ≤ 1000) (m : Int) (W : World) (hm : W.cell? ⟨1, 0, none⟩ = some (.int .i64 m)) :
    Calls Tryd.prog 51 #[.string ⟨(writeL es).toArray⟩, .string ⟨#[10]⟩] W fun e w' => ∃ g, e = .returned (.slice (some ⟨g, 0, none⟩) (es.length + 1) (es.length + 1)) ∧ W.heap.size ≤ g ∧ w'.heap[g]? = some (.cells ((pieces es).map Value.string).toArray 9 (0, 0)) ∧ Below W.heap.size W w' := by
  obtain ⟨h1, h2⟩ := text_split es hes
  have hsz : (⟨(writeL es).toArray⟩ : ByteArray).size ≤ 1001000 := by
    have h1 := writeL_size es (fun e he => (hes e he).1)
    show (writeL es).length ≤ 1001000
    have h3 : es.length * 1001 ≤ 1000 * 1001 := Nat.mul_le_mul_right _ hl
    omega
  have hs := Tryd.split_any ⟨(writeL es).toArray⟩ ⟨#[10]⟩ m W (by omega) hm (by decide)
  have hpl : (pieces es).length = es.length + 1 := by simp [pieces]
  rw [h1, h2, hpl] at hs
  refine hs.mono ?_
  rintro e w' ⟨rfl, rfl⟩
  exact ⟨_, rfl, Nat.le_refl _, heap_alloc_new _ _, (Below.refl _ _).alloc (Nat.le_refl _) _⟩
/-- A line is there, and is no remark. -/
theorem line_first {E : Ent} (h : okE E) : 0 < (lineL E).size ∧ (bt (lineL E) 0 == 35) = false := by
  have hv := okE_verb h
  have hw : ∃ c r, (vb E.1).1.data.toList = c :: r ∧ c ≠ 35 := by
    have hx : ∀ i : Fin 24, i.val ≠ 0 → ∃ c r, (vtab.getD i.val (⟨#[]⟩, 0, 0)).1.data.toList = c :: r ∧ c ≠ 35 := by
      have : ∀ i : Fin 24, i.val ≠ 0 → (vtab.getD i.val (⟨#[]⟩, 0, 0)).1.data.toList ≠ [] ∧ (vtab.getD i.val (⟨#[]⟩, 0, 0)).1.data.toList.head? ≠ some 35 := by decide
      intro i hi
      obtain ⟨h1, h2⟩ := this i hi
      cases hq : (vtab.getD i.val (⟨#[]⟩, 0, 0)).1.data.toList with
      | nil => exact absurd hq h1
      | cons c r =>
        rw [hq] at h2
        exact ⟨c, r, rfl, fun e => h2 (by rw [e]; rfl)⟩
    exact hx ⟨E.1.toNat, by omega⟩ (by simp only; omega)
  obtain ⟨c, r, hc, hne⟩ := hw
  have hl : (lineL E).data.toList = c :: (r ++ Lib.joinTail [32] ((E.2.1.map ntext ++ (if (vb E.1).2.2 = 2 then [E.2.2] else [])).map (·.data.toList))) := by
    show Lib.join ((partsL E).map (·.data.toList)) [32] = _
    unfold partsL heads
    rw [List.cons_append, List.map_cons, Lib.join_cons, hc]
    rfl
  have hsz : 0 < (lineL E).size := by
    have : (lineL E).data.toList.length = (lineL E).size := Array.length_toList
    rw [← this, hl]; simp
  refine ⟨hsz, ?_⟩
  have hb := bt_at (lineL E) 0 hsz
  rw [← hb]
  have h0 : (lineL E)[(0 : Int).toNat]'hsz = c := by
    have e : (lineL E).data.toList[0]? = some c := by rw [hl]; rfl
    have e2 : (lineL E).data.toList[0]? = some ((lineL E)[(0 : Int).toNat]'hsz) := by
      rw [Array.getElem?_toList, Array.getElem?_eq_getElem (by exact hsz)]
      rfl
    exact Option.some.inj (e2.symm.trans e)
  rw [h0]
  simp only [beq_eq_false_iff_ne]
  intro e
  apply hne
  have : c.toNat = 35 := by omega
  exact UInt8.toNat_inj.1 this
theorem piece_at (es : List Ent) (j : Nat) (h : j < es.length) : (pieces es)[j]? = some (lineL es[j]) := by
  unfold pieces
  rw [List.getElem?_append_left (by simpa using h), List.getElem?_map, List.getElem?_eq_getElem h]
  rfl
theorem piece_last (es : List Ent) : (pieces es)[es.length]? = some ⟨#[]⟩ := by
  unfold pieces
  rw [List.getElem?_append_right (by simp)]
  simp
/-- While a text is read. -/
structure RW (w W : World) (g : Nat) (ps : List ByteArray) (v : Value) (es : List S34) : Prop where
  low : Below w.heap.size w W
  pt : W.heap[g]? = some (.cells (ps.map Value.string).toArray 9 (0, 0))
  row : k34.R 34 W w.heap.size (fun _ => True) v es
section
variable {w W W1 : World} {g : Nat} {ps : List ByteArray} {v v1 : Value} {es : List S34} {E : Ent}
theorem RW.later (h : RW w W g ps v es) (hb : Below W.heap.size W W1) : RW w W1 g ps v es :=
  ⟨h.low.trans (hb.mono h.low.size), (hb.block _ (Array.getElem?_eq_some_iff.1 h.pt).1).trans h.pt, Kd.R_below h.row hb⟩
theorem RW.entry (h : RW w W g ps v es) (hR : Kd.R (Kd.int .i64) 3 W1 W.heap.size (fun _ => True) v1 E.2.1) (hB : Below W.heap.size W W1) :
    RW w W1 g ps v es ∧ k34.M W1 w.heap.size (fun k => some k ≠ v.ownBlock) (sE E) [.int .i64 E.1, v1, .string E.2.2] := by
  refine ⟨h.later hB, ?_⟩
  refine k34_mkM W1 w.heap.size _ (sE E) (Kd.R_lower (Kd.R_mono (Kd.R_bound hR) (fun k hk e => ?_)) h.low.size)
  obtain ⟨inner, ho⟩ := Kd.R_own h.row
  have := own_lt ho k e.symm
  have := hk.2.1
  omega
theorem RW.entry2 {cs : List Value} {x : S34} (h : RW w W g ps v es ∧ k34.M W w.heap.size (fun k => some k ≠ v.ownBlock) x cs) (hb : Below W.heap.size W W1) : RW w W1 g ps v es ∧ k34.M W1 w.heap.size (fun k => some k ≠ v.ownBlock) x cs :=
  ⟨h.1.later hb, Kd.M_below h.2 hb⟩
theorem RW.put (h : RW w W g ps v es) (hr : k34.R 34 W1 w.heap.size (fun _ => True) v1 (es ++ [sE E])) (hb : Below w.heap.size w W1) (hg : W.grownBy W1 v.ownBlock) : RW w W1 g ps v1 (es ++ [sE E]) :=
  ⟨hb, (hg.block _ (Array.getElem?_eq_some_iff.1 h.pt).1 (Kd.R_ne h.row h.pt (by decide))).trans h.pt, hr⟩
theorem RW.part (h : RW w W g ps v es) {i : Nat} {x : ByteArray} (hx : ps[i]? = some x) : W.cell? ⟨g, i, none⟩ = some (.string x) := by
  rw [cell_of_row W _ _ _ _ _ h.pt]
  simp [hx]
end
set_option maxRecDepth 10000 in
set_option maxHeartbeats 2000000 in
theorem read_any (es : List Ent) (hes : ∀ e ∈ es, okE e) (hl : es.length ≤ 1000) (m : Int) (w : World) (hG : Gl w) (hm : w.cell? ⟨1, 0, none⟩ = some (.int .i64 m)) :
    Calls Tryd.prog 23 #[.string ⟨(writeL es).toArray⟩] w fun e w' => ∃ x, e = .returned (.tuple #[x, .nilIface]) ∧ k34.R 34 w' w.heap.size (fun _ => True) x (es.map sE) ∧ Below w.heap.size w w' := by
  have HSp := hid (fun W hm => tsplit_any es hes hl m W hm)
  have HPa := hid (fun E h W hG hm => eparse_any E h m W hG hm)
  have HES := hid hes
  have HG0 := hid hG
  have HM0 := hid hm
  have HPI := hid (piece_at es)
  have HPL := hid (piece_last es)
  generalize pieces es = ps at HSp HPI HPL
  generalize (⟨(writeL es).toArray⟩ : ByteArray) = text at HSp ⊢
  clear hes hG hm
  go_enter Tryd.func23, Tryd.ntmps23
  go_wp2_with (go_at_call 51; go_must (with_reducible refine (HSp.out _ HM0.out).mono ?_); rintro e w2 ⟨g, rfl, hg, hp, hb⟩; have HRW := hid (RW.mk (w := w) hb hp (Kd.R_nil k34 34 w2 w.heap.size (fun _ => True))); clear hb hp)
  go_loopg [4, 12] (es.length + 1) (fun q s4 s12 wr => ∃ j : Nat, s12 = .int .i64 (j : Int) ∧ q = es.length + 1 - j ∧ j ≤ es.length + 1 ∧ Hid (RW w wr g ps s4 ((es.take j).map sE)))
  case atStart => exact ⟨0, rfl, by omega, by omega, by rw [List.take_zero]; exact HRW⟩
  case round =>
    clear HRW
    obtain ⟨j, rfl, rfl, hj, HRW⟩ := hrel
    have hw : IntKind.i64.wrap ((j : Int) + 1) = ((j + 1 : Nat) : Int) := by rw [IntWalk.i64_in _ (by omega)]; omega
    by_cases hjm : j < es.length
    · have b1 : decide ((j : Int) < (es.length : Int) + 1) = true := decide_eq_true (by omega)
      have b1' : (j : Int) < (es.length : Int) + 1 := by omega
      have hok := HES.out es[j] (List.getElem_mem hjm)
      have hpc := HRW.out.part (HPI.out j hjm)
      have e2 : (es.take (j + 1)).map sE = (es.take j).map sE ++ [sE es[j]] := by rw [List.take_add_one, List.getElem?_eq_getElem hjm, Option.toList_some, List.map_append]; rfl
      have hlen : ((es.take j).map sE).length = j := by rw [List.length_map, List.length_take]; omega
      generalize hE : es[j] = E at hok hpc e2
      have hpa := HPa.out E hok
      obtain ⟨hf0, hf1⟩ := line_first hok
      have hne : (lineL E).toList.isEmpty = false := by rw [isEmpty_size]; exact decide_eq_false (by omega)
      have hbt := (bt_at (lineL E) 0 hf0).symm
      rw [hbt] at hf1
      have hf1 : ((((lineL E)[0]'hf0).toNat : Int) == (35 : Int)) = false := hf1
      have HE2 := hid e2
      have HPE := hid hpa
      clear hE hbt e2 hpa
      generalize lineL E = line at hpc HPE hf0 hf1 hne
      obtain ⟨v, ns, d⟩ := E
      simp only at HPE HE2
      go_wp2_with (first
        | (go_at_call 52; go_must (with_reducible refine (HPE.out _ (HG0.out.later HRW.out.low) (cell_on HRW.out.low HM0.out)).mono ?_); rintro e w3 ⟨v3, rfl, hR, hB⟩; have HM := hid (RW.entry2 (HRW.out.entry (E := (v, ns, d)) hR hB) ((Below.refl _ w3).alloc (Nat.le_refl _) (.cells #[.int .i64 v, v3, .string d] 34))); obtain ⟨A3, c3, hv3⟩ := Kd.R_slice hR; subst hv3; clear hR hB HRW hpc)
        | ((with_reducible refine gate_builtin (b := .append) (xs := #[.tmp 38, .tmp 40]) rfl ?_); at_builtin; go_must (refine Kd.R_append k34 (w0 := w) w.heap.size rfl (.tmp 38) (.tmp 40) 38 34 (.agg #[(.int .i64 0), (.slice none 0 0), (.string ⟨#[]⟩)]) 48 rfl Tryd.underlying38 info34 rfl (by decide) (by omega) u4 ((es.take j).map sE) (sE (v, ns, d)) [.int .i64 v, .slice A3 _ c3, .string d] (fun _ => True) (fun k => some k ≠ u4.ownBlock) rfl ?aX ?aP (fun k hk => ⟨trivial, hk⟩) (fun _ _ => trivial) ?aO ?aB ?aS ?aL ?_); go_must ((case aX => show Value.slice (some ⟨w3.heap.size + 1, 0, none⟩) 1 1 = _; simp); (case aP => exact HM.out.2); (case aO => exact HM.out.1.row); (case aB => exact HM.out.1.low); (case aS => exact HM.out.1.low.size); (case aL => rw [hlen]; omega)); intro v4 w4 ho hb hg hat; have HRW := hid (HM.out.1.put (E := (v, ns, d)) ho hb hg); clear ho hb hg hat HM))
      go_roundg (es.length + 1 - (j + 1))
      case measure => omega
      case rel => exact ⟨j + 1, by simp, rfl, by omega, by rw [HE2.out]; exact HRW⟩
    · by_cases hje : j = es.length
      · subst hje
        have b1 : decide ((es.length : Int) < (es.length : Int) + 1) = true := decide_eq_true (by omega)
        have b1' : (es.length : Int) < (es.length : Int) + 1 := by omega
        have hpc := HRW.out.part HPL.out
        have e2 : es.take (es.length + 1) = es.take es.length := by rw [List.take_of_length_le (by omega), List.take_of_length_le (by omega)]
        rw [← e2] at HRW
        go_wp2_with fail
        go_roundg (es.length + 1 - (es.length + 1))
        case measure => omega
        case rel => exact ⟨es.length + 1, by simp, rfl, by omega, HRW⟩
      · have hjj : j = es.length + 1 := by omega
        subst hjj
        have b1 : decide (((es.length + 1 : Nat) : Int) < (es.length : Int) + 1) = false := decide_eq_false (by omega)
        rw [List.take_of_length_le (by omega)] at HRW
        obtain ⟨A4, c4, hv4⟩ := Kd.R_slice HRW.out.row
        subst hv4
        go_wp2_with fail
        refine bodyPost_ret (v := .tuple #[.slice A4 (es.map sE).length c4, .nilIface]) (by simp [results, Tryd.results23, go_sem]) rfl ?_
        exact ⟨_, rfl, HRW.out.row, HRW.out.low⟩
end Go.Proofs.YtmgcapccgncmkaaDoor.Ld
