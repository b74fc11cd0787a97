/- Images: merged (Ig Ih Ij). -/
import Derived.Test.YtmgcapccgncmkaaDoorId
import Derived.Test.YtmgcapccgncmkaaDoorIf
set_option linter.unusedSimpArgs false
set_option linter.unusedVariables false
namespace Go.Proofs.YtmgcapccgncmkaaDoor.Im
open Go.RowKit Go.Pv Go.Proofs.YtmgcapccgncmkaaDoor.Tx Go.Proofs.YtmgcapccgncmkaaDoorW.PrintWords Go.Proofs.YtmgcapccgncmkaaDoorW.PrintLast Go.Proofs

/-! ### rows of texts -/
def encS (x : ByteArray) : List Value := [.string x]
theorem encS_flat (l : List ByteArray) : l.flatMap encS = l.map Value.string := by
  induction l with
  | nil => rfl
  | cons a r ih => simp [encS, ih]
theorem infoParts {t : TypeId} {z : Value} {a b : Nat} (h : (Tryd.prog.info? t).map (fun i => (i.zero, i.size, i.bytes)) = some (some z, a, b)) : ∃ i, Tryd.prog.info? t = some i ∧ i.zero = some z ∧ i.size = a ∧ i.bytes = b := by
  cases hi : Tryd.prog.info? t with
  | none => rw [hi] at h; cases h
  | some i =>
    rw [hi] at h
    simp only [Option.map_some, Option.some.injEq, Prod.mk.injEq] at h
    exact ⟨i, rfl, h.1, h.2.1, h.2.2⟩
theorem infoS : ∃ i, Tryd.prog.info? 9 = some i ∧ i.zero = some (.string ⟨#[]⟩) ∧ i.size = 1 ∧ i.bytes = 16 :=
  infoParts (show (Tryd.prog.info? 9).map (fun i => (i.zero, i.size, i.bytes)) = some (some (.string ⟨#[]⟩), 1, 16) by kernel_rfl)
theorem sapp1 {w2 : World} {A : Option Addr} {n c : Nat} {L : List ByteArray} (sl : SlOf w2 9 1 encS (.slice A n c) L) (hL : L.length ≤ 1000) (hn : n = L.length) (x : ByteArray) :
    ∃ A' n' c' w3, (Builtin.append_ #[69, 69] 69 #[.slice A n c, .slice (some ⟨w2.heap.size, 0, none⟩) 1 1]).run Tryd.prog (w2.alloc (.cells #[.string x] 9)) = .ok (.slice A' n' c') w3 ∧ n' = (L ++ [x]).length ∧
      SlOf w3 9 1 encS (.slice A' n' c') (L ++ [x]) ∧ Keeps (fun k => (Value.slice A n c).ownBlock = some k) w2 w3 ∧ ((Value.slice A' n' c').ownBlock = (Value.slice A n c).ownBlock ∨ ∃ g, (Value.slice A' n' c').ownBlock = some g ∧ w2.heap.size ≤ g) := by
  subst hn
  obtain ⟨i0, hi, hz0, hz1, hz2⟩ := infoS
  have k3 : Below w2.heap.size w2 (w2.alloc (.cells #[.string x] 9)) := (Below.refl _ w2).alloc (Nat.le_refl _) _
  have bx : (w2.alloc (.cells #[.string x] 9)).heap[w2.heap.size]? = some (.cells #[.string x] 9 (0, 0)) := heap_at _ _ _ rfl
  have s2 : SlOf (w2.alloc (.cells #[.string x] 9)) 9 1 encS (.slice A L.length c) L := SlRow.kept sl (Keeps.of_below (F := fun _ => False) k3) (by simp)
  obtain ⟨v', w3, hr, hs3, hk3, hloc, -, -⟩ := run_append_sl (P := Tryd.prog) _ 69 69 9 i0 _ 1 16 Tryd.underlying69 hi hz0 hz1 hz2 rfl _ _ _ s2
        (.slice (some ⟨w2.heap.size, 0, none⟩) 1 1) 1 [.string x]
        (.inr ⟨_, _, rfl, World.news_of_block (cs := #[.string x]) (t := 9) (fr := (0, 0)) bx⟩) rfl (by simp [Value.oneCell']) (by unfold maxLen; omega) (by omega)
  have hform : ∃ a c, v' = .slice a (L.length + 1) c := by
    rcases SlRow.form hs3 with ⟨h1, h2⟩ | ⟨g, o, c, h1⟩
    · exact ⟨none, 0, by rw [h1, h2]⟩
    · exact ⟨_, _, h1⟩
  obtain ⟨A', c', hv'⟩ := hform
  subst hv'
  refine ⟨A', L.length + 1, c', w3, hr, by simp, ?_, (Keeps.of_below (F := fun k => (Value.slice A L.length c).ownBlock = some k) k3).trans hk3 (fun i hi => .inl hi), ?_⟩
  · unfold SlOf
    simpa [List.flatMap_append, encS] using hs3
  · rcases hloc with h | h
    · exact .inl h
    · exact .inr ⟨_, h, k3.size⟩
theorem SlOf.cellS {w : World} {v : Value} {L : List ByteArray} (h : SlOf w 9 1 encS v L) {g o c : Nat} (hv : v = .slice (some ⟨g, o, none⟩) L.length c) (j : Nat) (x : ByteArray) (hx : L[j]? = some x) : w.cell? ⟨g, o + j, none⟩ = some (.string x) :=
  SlRow.cells h hv j _ (by rw [encS_flat, List.getElem?_map, hx]; rfl)
theorem names_stay {w1 : World} {base mb n c : Nat} {A : Option Addr} {xs : List ByteArray} (h : Kd.string.R 9 w1 base (fun _ => True) (.slice A n c) xs) (hm : mb < base) : ∀ W', Keeps (fun i => i = mb) w1 W' → Kd.string.C W' A n xs := fun W' hk =>
  Kd.C_kept_own (S := fun i => i = mb) (Kd.R_bound h) (fun k hk2 e => by have := hk2.2.1; omega) W' ⟨hk.size, hk.block⟩
theorem name_at {w : World} {n : Nat} {A : Option Addr} {xs : List ByteArray} (h : Kd.string.C w A n xs) (hn : n = xs.length) (j : Nat) (hj : j < xs.length) : ∃ ad, A = some ad ∧ w.cell? (ad.add j) = some (.string xs[j]) := by
  obtain ⟨ad, h1, h2⟩ := Kd.at_string h (j : Int) (by omega) (by omega)
  refine ⟨ad, h1, ?_⟩
  rw [Int.toNat_natCast] at h2
  rw [h2]
  simp [rdOf, List.getD_eq_getElem?_getD, hj]
theorem filter_next (p : ByteArray → Bool) (l : List ByteArray) (j : Nat) (hj : j < l.length) : (l.take (j + 1)).filter p = (l.take j).filter p ++ (if p l[j] then [l[j]] else []) := by
  rw [List.take_succ_eq_append_getElem hj, List.filter_append]
  by_cases h : p l[j] <;> simp [h]
theorem filter_len (p : ByteArray → Bool) (l : List ByteArray) (j : Nat) : ((l.take j).filter p).length ≤ l.length :=
  Nat.le_trans (List.length_filter_le _ _) (by rw [List.length_take]; omega)

/-- What is there, by name. -/
def listA (al : IL) : List ByteArray := (namesA al).filter fun k => thereB k al
/-- A row of texts that grows, behind the world w. -/
structure LS (w W : World) (v : Value) (L : List ByteArray) : Prop where
  low : Below w.heap.size w W
  sl : SlOf W 9 1 encS v L
  new : ∀ g, v.ownBlock = some g → w.heap.size ≤ g
theorem LS.later {w W V : World} {v : Value} {L : List ByteArray} (h : LS w W v L) (hb : Below W.heap.size W V) : LS w V v L :=
  ⟨h.low.trans (hb.mono h.low.size), SlRow.kept h.sl (Keeps.of_below (F := fun _ => False) hb) (by simp), h.new⟩
theorem LS.add {w W V : World} {v v' : Value} {L L' : List ByteArray} (h : LS w W v L) (hs : SlOf V 9 1 encS v' L') (hk : Keeps (fun k => v.ownBlock = some k) W V) (hl : v'.ownBlock = v.ownBlock ∨ ∃ g, v'.ownBlock = some g ∧ W.heap.size ≤ g) : LS w V v' L' :=
  ⟨h.low.trans (hk.below h.low.size h.new), hs, fun g hg => by
    rcases hl with h1 | ⟨g', h1, h2⟩
    · exact h.new g (h1 ▸ hg)
    · rw [h1] at hg
      cases hg
      exact Nat.le_trans h.low.size h2⟩
theorem LS.form {w W : World} {v : Value} {L : List ByteArray} (h : LS w W v L) : ∃ A c, v = .slice A L.length c := by
  rcases SlRow.form h.sl with ⟨h1, h2⟩ | ⟨g, o, c, h1⟩
  · exact ⟨none, 0, by rw [h1, h2]⟩
  · exact ⟨_, _, h1⟩
set_option maxRecDepth 10000 in
set_option maxHeartbeats 2000000 in
theorem list_any {w : World} {p mb : Nat} {al : IL} {tick : Int} (h : IBk w p mb al tick) (hs : Short al) :
    Calls Tryd.prog 71 #[.pointer (some ⟨p, 0, none⟩)] w fun e w' => ∃ v, e = .returned v ∧ LS w w' v (listA al) := by
  have HK := hid (keys_any mb w)
  have HSo := hid (sorted_any h hs)
  have HP := hid h
  have hmb := h.lt.2
  have c0 := h.c0
  have hlen := namesA_length al
  have hl16 := hs.2
  unfold listA
  clear h hs
  rw [← hlen] at HSo hl16
  generalize namesA al = N at HSo hl16 hlen ⊢
  clear hlen
  go_enter Tryd.func71, Tryd.ntmps71
  go_wp2_with (first
    | (go_at_call 91; go_must (with_reducible refine HK.out.mono ?_); rintro e w1 ⟨rfl, hw1⟩; have HW1 := hid hw1; clear hw1)
    | (have h1 := HW1.out; go_at_call 90; rw [h1]; clear h1; go_must (with_reducible refine HSo.out.mono ?_); rintro e w2 ⟨A, c, rfl, hR, hb⟩; have HN := hid (names_stay hR hmb); have HB2 := hid hb; clear hR hb))
  clear HW1
  have H0 := hid (show LS w2 w2 (.slice none 0 0) ((N.take 0).filter fun k => thereB k al) from ⟨Below.refl _ _, SlRow.nil _ _ _, by simp [Value.ownBlock]⟩)
  go_loopg [3, 13] N.length (fun q s3 s13 wr => ∃ (j : Nat) (A1 : Option Addr) (n1 c1 : Nat), s3 = .slice A1 n1 c1 ∧ s13 = .int .i64 (j : Int) ∧ q = N.length - j ∧ j ≤ N.length ∧ Hid (n1 = ((N.take j).filter fun k => thereB k al).length) ∧ Hid (LS w2 wr (.slice A1 n1 c1) ((N.take j).filter fun k => thereB k al)))
  case atStart => exact ⟨0, none, 0, 0, rfl, rfl, by omega, by omega, hid (by simp), H0⟩
  case round =>
    clear H0
    obtain ⟨j, A1, n1, c1, rfl, rfl, rfl, hj, hn1, HL⟩ := hrel
    have hwj : IntKind.i64.wrap ((j : Int) + 1) = ((j + 1 : Nat) : Int) := by rw [IntWalk.i64_in _ (by omega)]; omega
    by_cases hlt : j < N.length
    · obtain ⟨ad, hA, cj⟩ := name_at (HN.out _ (Keeps.of_below HL.out.low)) rfl j hlt
      subst hA
      have hfn := filter_next (fun k => thereB k al) N j hlt
      have hfl := filter_len (fun k => thereB k al) N j
      generalize N[j] = k at cj hfn
      have HH := hid (has_any ((HP.out.below HB2.out).below HL.out.low) k)
      by_cases ht : thereB k al = true
      · rw [if_pos ht] at hfn
        have HFN := hid hfn
        clear hfn
        rw [ht] at HH
        clear ht
        go_upto_region 6 with (go_at_call 30; go_must (with_reducible refine HH.out.mono ?_); rintro e w3 ⟨rfl, hb⟩; have HL3 := hid (HL.out.later hb); clear hb)
        obtain ⟨A2, n2, c2, w4, hr, hn2, hs4, hk4, hl4⟩ := sapp1 HL3.out.sl (by omega) hn1.out k
        have HR := hid hr
        have HL4 := hid (HL3.out.add hs4 hk4 hl4)
        rw [← HFN.out] at HL4 hn2
        have HN2 := hid hn2
        clear hr hs4 hk4 hl4 HL HL3 cj hn2
        go_wp2_with (at_builtin; refine wl_append rfl _ _ _ rfl ⟨_, _, HR.out, ?_⟩)
        go_roundg (N.length - (j + 1))
        case measure => omega
        case rel => exact ⟨j + 1, A2, n2, c2, rfl, rfl, rfl, by omega, HN2, HL4⟩
      · rw [if_neg ht, List.append_nil] at hfn
        have hF : thereB k al = false := by simpa using ht
        rw [hF] at HH
        have HFN := hid hfn
        clear hfn ht hF
        go_wp2_with (go_at_call 30; go_must (with_reducible refine HH.out.mono ?_); rintro e w3 ⟨rfl, hb⟩; have HL3 := hid (HL.out.later hb); clear hb)
        go_roundg (N.length - (j + 1))
        case measure => omega
        case rel => exact ⟨j + 1, A1, n1, c1, rfl, rfl, rfl, by omega, by rw [HFN.out]; exact hn1, by rw [HFN.out]; exact HL3⟩
    · have hje : j = N.length := by omega
      subst hje
      rw [List.take_length] at HL
      go_wp2_with fail
      go_ret
      exact ⟨_, rfl, ⟨HB2.out.trans (HL.out.low.mono HB2.out.size), HL.out.sl, fun g hg => Nat.le_trans HB2.out.size (HL.out.new g hg)⟩⟩
end Go.Proofs.YtmgcapccgncmkaaDoor.Im
namespace Go.Proofs.YtmgcapccgncmkaaDoor.Im
open Go.RowKit Go.Pv Go.Proofs.YtmgcapccgncmkaaDoor.Tx Go.Proofs.YtmgcapccgncmkaaDoorW.PrintWords Go.Proofs.YtmgcapccgncmkaaDoorW.PrintLast Go.Proofs

/-- An image behind a tick; the store behind a tick for one name, for all names. -/
def tickI (T : Int) (s : Im) : Im := if s.1 = 0 then s else if s.1 = 1 then (0, s.2.1, T) else (s.1 - 1, s.2.1, s.2.2)
def tkS (T : Int) (al : IL) (k : ByteArray) : IL := if (getI k al).1 = 0 then al else aset k (tickI T (getI k al)) al
def tkA (T : Int) (al : IL) (ks : List ByteArray) : IL := ks.foldl (tkS T) al
def cameL (T : Int) : IL → List ByteArray → List ByteArray
  | _, [] => []
  | al, k :: ks => (if (getI k al).1 = 1 then [k] else []) ++ cameL T (tkS T al k) ks
theorem tkA_next (T : Int) (al : IL) (N : List ByteArray) (j : Nat) (hj : j < N.length) : tkA T al (N.take (j + 1)) = tkS T (tkA T al (N.take j)) N[j] := by
  unfold tkA
  rw [List.take_succ_eq_append_getElem hj, List.foldl_append]
  rfl
theorem cameL_app (T : Int) : ∀ (l : List ByteArray) (al : IL) (k : ByteArray), cameL T al (l ++ [k]) = cameL T al l ++ (if (getI k (tkA T al l)).1 = 1 then [k] else [])
  | [], al, k => by
    simp only [List.nil_append, cameL, List.append_nil]
    rfl
  | a :: r, al, k => by
    rw [List.cons_append, cameL, cameL_app T r (tkS T al a) k, cameL, List.append_assoc]
    rfl
theorem cameL_next (T : Int) (al : IL) (N : List ByteArray) (j : Nat) (hj : j < N.length) : cameL T al (N.take (j + 1)) = cameL T al (N.take j) ++ (if (getI N[j] (tkA T al (N.take j))).1 = 1 then [N[j]] else []) := by
  rw [List.take_succ_eq_append_getElem hj, cameL_app]
theorem cameL_length (T : Int) : ∀ (l : List ByteArray) (al : IL), (cameL T al l).length ≤ l.length
  | [], al => Nat.le_refl _
  | a :: r, al => by
    rw [cameL, List.length_append, List.length_cons]
    have := cameL_length T r (tkS T al a)
    split <;> simp <;> omega
theorem getI_aset_same (k : ByteArray) (s : Im) (al : IL) : getI k (aset k s al) = s := by unfold getI; rw [aget_aset_same]; rfl
theorem getI_aset_other {k q : ByteArray} (h : q ≠ k) (s : Im) (al : IL) : getI q (aset k s al) = getI q al := by unfold getI; rw [aget_aset_other h]
theorem getI_tkS (T : Int) (al : IL) (k q : ByteArray) : getI q (tkS T al k) = if q = k then tickI T (getI q al) else getI q al := by
  unfold tkS
  by_cases h : q = k
  · subst h
    rw [if_pos rfl]
    by_cases h0 : (getI q al).1 = 0
    · rw [if_pos h0, tickI, if_pos h0]
    · rw [if_neg h0, getI_aset_same]
  · rw [if_neg h]
    split
    · rfl
    · exact getI_aset_other h _ _
/-- What is kept by every tick is kept by all. -/
theorem tkA_keeps (T : Int) (P : Im → Prop) (hP : ∀ s, P s → P (tickI T s)) (al : IL) (h : ∀ k, P (getI k al)) (ks : List ByteArray) : ∀ k, P (getI k (tkA T al ks)) := by
  induction ks generalizing al with
  | nil => exact h
  | cons a r ih =>
    refine ih (tkS T al a) (fun k => ?_)
    rw [getI_tkS]
    split
    · exact hP _ (h k)
    · exact h k
theorem names_aset {κ ν : Type} [DecidableEq κ] (k : κ) (v : ν) (rows : List (κ × ν)) (h : (aget k rows).isSome = true) : (aset k v rows).map (·.1) = rows.map (·.1) := by
  induction rows with
  | nil => simp [aget] at h
  | cons r rs ih =>
    simp only [aset]
    by_cases hr : r.1 = k
    · simp [hr]
    · rw [if_neg hr]
      simp only [List.map_cons]
      rw [ih (by simpa [aget, hr] using h)]
theorem names_tkS (T : Int) (al : IL) (k : ByteArray) : (tkS T al k).map (·.1) = al.map (·.1) := by
  unfold tkS
  split
  · rfl
  · rename_i h
    refine names_aset _ _ _ ?_
    unfold getI at h
    cases hg : aget k al with
    | none => rw [hg] at h; exact absurd rfl h
    | some s => rfl
theorem names_tkA (T : Int) (al : IL) (ks : List ByteArray) : (tkA T al ks).map (·.1) = al.map (·.1) := by
  induction ks generalizing al with
  | nil => rfl
  | cons a r ih =>
    show ((tkA T (tkS T al a) r)).map (·.1) = _
    rw [ih, names_tkS]

/-- While a tick goes. -/
structure TK (w2 W : World) (p mb : Nat) (al : IL) (T : Int) (v : Value) (L : List ByteArray) : Prop where
  bk : IBk W p mb al T
  kp : Keeps (fun i => i = mb) w2 W
  sl : SlOf W 9 1 encS v L
  new : ∀ g, v.ownBlock = some g → w2.heap.size ≤ g
  lp : p < w2.heap.size
  lm : mb < w2.heap.size
section
variable {w2 W : World} {p mb : Nat} {al : IL} {T : Int} {v : Value} {L : List ByteArray}
theorem TK.box (h : TK w2 W p mb al T v L) (o : Obj) : TK w2 (W.alloc o) p mb al T v L :=
  ⟨h.bk.below ((Below.refl _ W).alloc (Nat.le_refl _) _), h.kp.alloc o, SlRow.alloc h.sl o, h.new, h.lp, h.lm⟩
theorem TK.drew (h : TK w2 W p mb al T v L) : TK w2 W.drew p mb al T v L := ⟨h.bk.below (Below.refl _ W).drew, h.kp.drew, SlRow.drew h.sl, h.new, h.lp, h.lm⟩
theorem TK.upd (h : TK w2 W p mb al T v L) (k : ByteArray) (x y z : Int) : ∃ w5, Hid ((Instr.mapUpdate 117 (.map (some mb)) (.string k) (.agg #[.int .i64 x, .int .i64 y, .int .i64 z])).run Tryd.prog W = .ok () w5) ∧ Hid (TK w2 w5 p mb (aset k (x, y, z) al) T v L) := by
  obtain ⟨w5, h1, h2, h3, -⟩ := h.bk.set k (x, y, z)
  refine ⟨w5, h1, h2, h.kp.trans h3 (fun i hi => .inl hi), SlRow.kept h.sl h3 (fun g hg e => ?_), h.new, h.lp, h.lm⟩
  have := h.new g hg
  have := h.lm
  omega
theorem TK.app {A1 : Option Addr} {n1 c1 : Nat} (h : TK w2 W p mb al T (.slice A1 n1 c1) L) (hL : L.length ≤ 1000) (hn : n1 = L.length) (x : ByteArray) :
    ∃ A' n' c' w3, Hid ((Builtin.append_ #[69, 69] 69 #[.slice A1 n1 c1, .slice (some ⟨W.heap.size, 0, none⟩) 1 1]).run Tryd.prog (W.alloc (.cells #[.string x] 9)) = .ok (.slice A' n' c') w3) ∧ Hid (n' = (L ++ [x]).length) ∧
      Hid (TK w2 w3 p mb al T (.slice A' n' c') (L ++ [x])) ∧ ∀ q u, W.cell? q = some u → (∀ g, (Value.slice A1 n1 c1).ownBlock = some g → q.block ≠ g) → w3.cell? q = some u := by
  obtain ⟨A', n', c', w3, hr, hn', hs, hk, hl⟩ := sapp1 h.sl hL hn x
  have hne : ∀ g, (Value.slice A1 n1 c1).ownBlock = some g → g ≠ p ∧ g ≠ mb := fun g hg => by have := h.new g hg; have := h.lp; have := h.lm; omega
  refine ⟨A', n', c', w3, hr, hn', ⟨h.bk.kept hk (fun e => (hne p e).1 rfl) (fun e => (hne mb e).2 rfl), h.kp.trans hk (fun i hi => .inr (h.new i hi)), hs, fun g hg => ?_, h.lp, h.lm⟩, fun q u hq hb => ?_⟩
  · rcases hl with h1 | ⟨g', h1, h2⟩
    · exact h.new g (h1 ▸ hg)
    · rw [h1] at hg
      cases hg
      exact Nat.le_trans h.kp.size h2
  · exact (hk.cell (World.block_lt_of_cell? _ _ hq) (fun e => hb _ e rfl)).trans hq
theorem TK.lt (h : TK w2 W p mb al T v L) : ∀ g, v.ownBlock = some g → g < W.heap.size := fun g hg => SlRow.lt h.sl hg
end
theorem box3 {w1 : World} {x y z : Int} :
    (w1.alloc (.cells #[.int .i64 x, .int .i64 y, .int .i64 z] 121)).cell? ⟨w1.heap.size, 0, none⟩ = some (.int .i64 x) ∧ (w1.alloc (.cells #[.int .i64 x, .int .i64 y, .int .i64 z] 121)).cell? ⟨w1.heap.size, 1, none⟩ = some (.int .i64 y) ∧ (w1.alloc (.cells #[.int .i64 x, .int .i64 y, .int .i64 z] 121)).cell? ⟨w1.heap.size, 2, none⟩ = some (.int .i64 z) := by
  have hx := heap_alloc_new w1 (.cells #[.int .i64 x, .int .i64 y, .int .i64 z] 121)
  refine ⟨?_, ?_, ?_⟩ <;> (rw [cell_of_row _ _ _ _ _ _ hx]; rfl)
theorem IBk.tickUp {w : World} {p mb : Nat} {al : IL} {tick : Int} (h : IBk w p mb al tick) (T : Int) : IBk (w.setCell ⟨p, 1, none⟩ (.int .i64 T)) p mb al T ∧ Keeps (fun i => i = p) w (w.setCell ⟨p, 1, none⟩ (.int .i64 T)) := by
  have hk : Keeps (fun i => i = p) w (w.setCell ⟨p, 1, none⟩ (.int .i64 T)) := (Keeps.refl _ w).setCell ⟨p, 1, none⟩ _ (.inl rfl)
  refine ⟨⟨heap_setCell_same w p 1 _ _ _ h.cell, h.map.kept hk (fun e => h.ne e.symm), h.nd⟩, hk⟩

set_option maxRecDepth 10000 in
set_option maxHeartbeats 4000000 in
theorem tick_any {w : World} {p mb : Nat} {al : IL} {tick : Int} (h : IBk w p mb al tick) (hs : Short al) (ht : 0 ≤ tick ∧ tick ≤ 1000000) (hg : ∀ k, 0 ≤ (getI k al).1 ∧ (getI k al).1 ≤ 1000) :
    Calls Tryd.prog 59 #[.pointer (some ⟨p, 0, none⟩)] w fun e w' => ∃ A c, e = .returned (.slice A (cameL (tick + 1) al (namesA al)).length c) ∧
      IBk w' p mb (tkA (tick + 1) al (namesA al)) (tick + 1) ∧ Keeps (fun i => i = p ∨ i = mb) w w' ∧ SlOf w' 9 1 encS (.slice A (cameL (tick + 1) al (namesA al)).length c) (cameL (tick + 1) al (namesA al)) := by
  have hwt : IntKind.i64.wrap (tick + 1) = tick + 1 := IntWalk.i64_in _ (by omega)
  have c0 := h.c0
  have c1 := h.c1
  have f1 := h.fr 1
  obtain ⟨T, hT⟩ : ∃ T, T = tick + 1 := ⟨_, rfl⟩
  rw [← hT]
  obtain ⟨hu, hk1⟩ := h.tickUp T
  obtain ⟨W1, hW1⟩ : ∃ W1, W1 = w.setCell ⟨p, 1, none⟩ (.int .i64 T) := ⟨_, rfl⟩
  rw [← hW1] at hu hk1
  have HK := hid (keys_any mb W1)
  have HSo := hid (sorted_any hu hs)
  have HU := hid hu
  have HK1 := hid hk1
  have hlen := namesA_length al
  have hl16 := hs.2
  rw [← hlen] at HSo hl16
  generalize namesA al = N at HSo hl16 hlen ⊢
  have HG := hid (tkA_keeps T (fun s => 0 ≤ s.1 ∧ s.1 ≤ 1000) (fun s h => by unfold tickI; split; exact h; split <;> simp only <;> omega) al hg)
  have hlm := hu.lt
  clear hlen h hs hg hu hk1
  go_enter Tryd.func59, Tryd.ntmps59
  go_upto_region 2 with fail
  rw [← hT, ← hW1]
  have d0 := HU.out.c0
  have HT1 := hid hT
  have HW1 := hid hW1
  clear c0 c1 f1 hwt hW1 hT
  go_wp2_with (first
    | (go_at_call 91; go_must (with_reducible refine HK.out.mono ?_); rintro e w1 ⟨rfl, hw1⟩; have HW1' := hid hw1; clear hw1)
    | (have h1 := HW1'.out; go_at_call 90; rw [h1]; clear h1; go_must (with_reducible refine HSo.out.mono ?_); rintro e w2 ⟨A, c, rfl, hR, hb⟩; have HN := hid (names_stay hR hlm.2); have HB2 := hid hb; clear hR hb))
  clear HW1' d0
  have H0 := hid (show TK w2 w2 p mb (tkA T al (N.take 0)) T (.slice none 0 0) (cameL T al (N.take 0)) from ⟨HU.out.below HB2.out, Keeps.refl _ _, SlRow.nil _ _ _, by simp [Value.ownBlock], Nat.lt_of_lt_of_le hlm.1 HB2.out.size, Nat.lt_of_lt_of_le hlm.2 HB2.out.size⟩)
  go_loopg [3, 21] N.length (fun q s3 s21 wr => ∃ (j : Nat) (A1 : Option Addr) (n1 c1 : Nat), s3 = .slice A1 n1 c1 ∧ s21 = .int .i64 (j : Int) ∧ q = N.length - j ∧ j ≤ N.length ∧ Hid (n1 = (cameL T al (N.take j)).length) ∧ Hid (TK w2 wr p mb (tkA T al (N.take j)) T (.slice A1 n1 c1) (cameL T al (N.take j))))
  case atStart => exact ⟨0, none, 0, 0, rfl, rfl, by omega, by omega, hid (by simp [cameL]), H0⟩
  case round =>
    clear H0
    obtain ⟨j, A1, n1, c1, rfl, rfl, rfl, hj, hn1, HL⟩ := hrel
    have hwj : IntKind.i64.wrap ((j : Int) + 1) = ((j + 1 : Nat) : Int) := by rw [IntWalk.i64_in _ (by omega)]; omega
    by_cases hlt : j < N.length
    · obtain ⟨ad, hA, cj⟩ := name_at (HN.out _ HL.out.kp) rfl j hlt
      subst hA
      have hfl := cameL_length T (N.take j) al
      have hfl2 : (N.take j).length = j := by rw [List.length_take]; omega
      have htn := tkA_next T al N j hlt
      have hcn := cameL_next T al N j hlt
      have hgj := HG.out (N.take j)
      generalize tkA T al (N.take j) = al1 at HL htn hcn hgj
      generalize cameL T al (N.take j) = L1 at HL hcn hfl hn1
      generalize N[j] = k at cj htn hcn
      have hgk := hgj k
      have HLk := hid (HL.out.bk.look k)
      have hgi : (aget k al1).getD (0, 0, 0) = getI k al1 := rfl
      rw [hgi] at HLk
      have e0 := HL.out.bk.c0
      unfold tkS tickI at htn
      clear hgi hgj
      generalize getI k al1 = s at HLk hgk htn hcn
      obtain ⟨l, u, sn⟩ := s
      simp only at hgk htn hcn
      unfold imv at HLk
      simp only at HLk
      have hwl : IntKind.i64.wrap (l - 1) = l - 1 := IntWalk.i64_in _ (by omega)
      by_cases h0 : l = 0
      · have hd : decide (l = 0) = true := decide_eq_true h0
        have hd2 : (l == 0) = true := by simpa using h0
        rw [if_pos h0] at htn
        rw [if_neg (by omega), List.append_nil] at hcn
        have HTN := hid htn
        have HCN := hid hcn
        have HB := hid (HL.out.box (.cells #[.int .i64 l, .int .i64 u, .int .i64 sn] 121))
        clear htn hcn h0
        go_wp2_with (at_lookup; refine wl_lookup rfl _ _ _ _ rfl ⟨_, _, HLk.out, ?_⟩)
        go_roundg (N.length - (j + 1))
        case measure => omega
        case rel => exact ⟨j + 1, A1, n1, c1, rfl, rfl, rfl, by omega, by rw [HCN.out]; exact hn1, by rw [HTN.out, HCN.out]; exact HB⟩
      · have hd : decide (l = 0) = false := decide_eq_false h0
        have hd2 : (l == 0) = false := by simpa using h0
        simp only [if_neg h0] at htn
        by_cases h1 : l = 1
        · have hd3 : decide (l - 1 = 0) = true := decide_eq_true (by omega)
          have hd4 : (l - 1 == 0) = true := by simp; omega
          rw [if_pos h1] at htn hcn
          have hl1 := hid (show l - 1 = 0 by omega)
          have HTN := hid htn
          have HCN := hid hcn
          have e1 := HL.out.bk.c1
          have hpl : p < wr.heap.size := HL.out.bk.lt.1
          clear htn hcn h0 h1
          go_upto_region 11 with (at_lookup; refine wl_lookup rfl _ _ _ _ rfl ⟨_, _, HLk.out, ?_⟩)
          obtain ⟨W5, hW5⟩ : ∃ W5, W5 = wr.alloc (.cells #[.int .i64 (l - 1), .int .i64 u, .int .i64 T] 121) := ⟨_, rfl⟩
          have HB := hid (HL.out.box (.cells #[.int .i64 (l - 1), .int .i64 u, .int .i64 T] 121))
          obtain ⟨b0, b1, b2⟩ := box3 (w1 := wr) (x := l - 1) (y := u) (z := T)
          rw [← hW5] at HB b0 b1 b2 ⊢
          obtain ⟨A2, n2, c2, w4, HR, HN2, HB4, hc⟩ := HB.out.app (by omega) hn1.out k
          have hne : ∀ g, (Value.slice A1 n1 c1).ownBlock = some g → wr.heap.size ≠ g := fun g hg => by have := HL.out.lt g hg; omega
          have b0' := hc _ _ b0 hne
          have b1' := hc _ _ b1 hne
          have b2' := hc _ _ b2 hne
          obtain ⟨w5, HR5, HB5⟩ := HB4.out.drew.upd k (l - 1) u T
          have g0 := HB4.out.bk.c0
          rw [hl1.out] at HB5
          rw [← HTN.out, ← HCN.out] at HB5
          rw [← HCN.out] at HN2
          clear hc b0 b1 b2 hW5 HB HB4 hne
          go_upto_region 12 with (at_builtin; refine wl_append rfl _ _ _ rfl ⟨_, _, HR.out, ?_⟩)
          go_still_tail 6, (by kernel_rfl)
          change wpList _ _ _ _ _ _
          go_wp2_with (at_mapUpdate; refine wl_mapUpdate rfl _ _ _ _ rfl ⟨_, HR5.out, ?_⟩)
          go_roundg (N.length - (j + 1))
          case measure => omega
          case rel => exact ⟨j + 1, A2, n2, c2, rfl, rfl, rfl, by omega, HN2, HB5⟩
        · have hd3 : decide (l - 1 = 0) = false := decide_eq_false (by omega)
          have hd4 : (l - 1 == 0) = false := by simp; omega
          rw [if_neg h1] at htn hcn
          rw [List.append_nil] at hcn
          have HTN := hid htn
          have HCN := hid hcn
          clear htn hcn h0 h1
          go_upto_region 12 with (at_lookup; refine wl_lookup rfl _ _ _ _ rfl ⟨_, _, HLk.out, ?_⟩)
          obtain ⟨W5, hW5⟩ : ∃ W5, W5 = wr.alloc (.cells #[.int .i64 (l - 1), .int .i64 u, .int .i64 sn] 121) := ⟨_, rfl⟩
          have HB := hid (HL.out.box (.cells #[.int .i64 (l - 1), .int .i64 u, .int .i64 sn] 121))
          obtain ⟨b0, b1, b2⟩ := box3 (w1 := wr) (x := l - 1) (y := u) (z := sn)
          rw [← hW5] at HB b0 b1 b2 ⊢
          obtain ⟨w5, HR5, HB5⟩ := HB.out.drew.upd k (l - 1) u sn
          have g0 := HB.out.bk.c0
          rw [← HTN.out] at HB5
          clear hW5 HB
          go_still_tail 6, (by kernel_rfl)
          change wpList _ _ _ _ _ _
          go_wp2_with (at_mapUpdate; refine wl_mapUpdate rfl _ _ _ _ rfl ⟨_, HR5.out, ?_⟩)
          go_roundg (N.length - (j + 1))
          case measure => omega
          case rel => exact ⟨j + 1, A1, n1, c1, rfl, rfl, rfl, by omega, by rw [HCN.out]; exact hn1, by rw [HCN.out]; exact HB5⟩
    · have hje : j = N.length := by omega
      subst hje
      rw [List.take_length] at HL hn1
      have HE := hn1
      go_wp2_with fail
      go_ret
      have hE := HE.out
      subst hE
      exact ⟨_, _, rfl, HL.out.bk, ((HK1.out.mono (fun i hi => .inl hi)).trans (Keeps.of_below (F := fun i => i = mb) HB2.out) (fun i hi => .inl (.inr hi))).trans HL.out.kp (fun i hi => .inl (.inr hi)), HL.out.sl⟩
end Go.Proofs.YtmgcapccgncmkaaDoor.Im
namespace Go.Proofs.YtmgcapccgncmkaaDoor.Im
open Go.RowKit Go.Pv Go.Proofs.YtmgcapccgncmkaaDoor.Tx Go.Proofs.YtmgcapccgncmkaaDoorW.PrintWords Go.Proofs.YtmgcapccgncmkaaDoorW.PrintLast Go.Proofs Go.Sort

theorem keeps_sortWorld {α : Type} [Inhabited α] (enc : α → Value) (w : World) (g o m : Nat) (dk : Array α) (os : Array Obj) : Keeps (fun i => i = g) w (sortWorld enc w g o m dk os) := by
  refine ⟨rfl, rfl, rfl, ?_, fun k hk hn => ?_⟩
  · simp [sortWorld, grow, putRow, mapBlock, Sort.ahead]
  · have h1 : k < (putRow enc (Sort.ahead w m) g o dk).heap.size := by simp [putRow, mapBlock, Sort.ahead]; exact hk
    rw [sortWorld, heap_grow_old _ _ h1]
    have hn2 : ¬ g = k := fun e => hn e.symm
    simp [putRow, mapBlock, Sort.ahead, Array.getElem?_modify, hn2]
theorem keeps_putRow {α : Type} [Inhabited α] (enc : α → Value) (w : World) (g o m : Nat) (dk : Array α) : Keeps (fun i => i = g) w (putRow enc (Sort.ahead w m) g o dk) := by
  refine ⟨rfl, rfl, rfl, ?_, fun k hk hn => ?_⟩
  · simp [putRow, mapBlock, Sort.ahead]
  · have hn2 : ¬ g = k := fun e => hn e.symm
    simp [putRow, mapBlock, Sort.ahead, Array.getElem?_modify, hn2]
theorem oneCellS : OneCell Value.string := fun _ => rfl
/-- What is asked of the store while rows are turned. -/
structure US (w : World) (p mb b2 b3 : Nat) (al : IL) (tick ago : Int) : Prop where
  bk : IBk w p mb al tick
  h2 : w.cell? ⟨b2, 0, none⟩ = some (.pointer (some ⟨p, 0, none⟩))
  h3 : w.cell? ⟨b3, 0, none⟩ = some (.int .i64 ago)
theorem US.kept {w w' : World} {p mb b2 b3 : Nat} {al : IL} {tick ago : Int} {F : Nat → Prop} (h : US w p mb b2 b3 al tick ago) (hk : Keeps F w w') (n1 : ¬ F p) (n2 : ¬ F mb) (n3 : ¬ F b2) (n4 : ¬ F b3) : US w' p mb b2 b3 al tick ago :=
  ⟨h.bk.kept hk n1 n2, (hk.cell (p := ⟨b2, 0, none⟩) (World.block_lt_of_cell? _ _ h.h2) n3).trans h.h2, (hk.cell (p := ⟨b3, 0, none⟩) (World.block_lt_of_cell? _ _ h.h3) n4).trans h.h3⟩
theorem US.below {w w' : World} {p mb b2 b3 : Nat} {al : IL} {tick ago : Int} (h : US w p mb b2 b3 al tick ago) (hb : Below w.heap.size w w') : US w' p mb b2 b3 al tick ago :=
  h.kept (Keeps.of_below (F := fun _ => False) hb) (by simp) (by simp) (by simp) (by simp)
/-- The used are thrown out. -/
theorem del_some {w : World} {p mb b2 b3 g o c : Nat} {al : IL} {tick ago : Int} (hU : US w p mb b2 b3 al tick ago) (ht : 0 ≤ tick ∧ tick ≤ 1000000) (hs : ∀ k, 0 ≤ (getI k al).2.2 ∧ (getI k al).2.2 ≤ 1000000)
    (hg : g ≠ p ∧ g ≠ mb ∧ g ≠ b2 ∧ g ≠ b3) {L : List ByteArray} (hS : SlOf w 9 1 encS (.slice (some ⟨g, o, none⟩) L.length c) L) :
    Calls Tryd.prog 70 #[.slice (some ⟨g, o, none⟩) L.length c, .func (.func 72) #[] #[.pointer (some ⟨b2, 0, none⟩), .pointer (some ⟨b3, 0, none⟩)]] w fun e w' =>
      e = .returned (.slice (some ⟨g, o, none⟩) (L.filter fun k => !usedB tick ago (getI k al)).length c) ∧ Keeps (fun i => i = g) w w' ∧ IS w' w' g o (L.filter fun k => !usedB tick ago (getI k al)) ∧ L.length ≤ c := by
  have hlt : g < w.heap.size := SlRow.lt hS rfl
  obtain ⟨g', o', cap', cur, hv, hb, hcap, -, -, -⟩ : ∃ g' o' cap' cur, Value.slice (some ⟨g, o, none⟩) L.length c = .slice (some ⟨g', o', none⟩) L.length cap' ∧ w.heap[g']? = some (.cells cur 9 (0, 0)) ∧ L.length ≤ cap' ∧ True ∧ True ∧ True := by
    rcases hS.2 with ⟨h1, h2⟩ | ⟨g', o', cap', cur, h1, h2, h3, -⟩
    · cases h1
    · exact ⟨g', o', cap', cur, h1, h2, h3, trivial, trivial, trivial⟩
  simp only [Value.slice.injEq, Option.some.injEq, Addr.mk.injEq, true_and, and_true] at hv
  obtain ⟨⟨rfl, rfl⟩, rfl⟩ := hv
  have hfz : ∀ j, w.frozen? ⟨g, j, none⟩ = false := fun j => by simp [World.frozen?, hb]
  have hH : Holds Value.string w g o L.toArray := fun j hj => by
    have hj' : j < L.length := by simpa using hj
    refine ⟨?_, hfz _⟩
    rw [getElem!_pos _ j hj]
    exact SlOf.cellS hS rfl j _ (by simp [hj'])
  have key : ∀ W, Keeps (fun i => i = g) w W → ∀ x, FnGives Tryd.prog 72 #[.pointer (some ⟨b2, 0, none⟩), .pointer (some ⟨b3, 0, none⟩)] #[Value.string x] (.bool (usedB tick ago (getI x al))) W := fun W hk x => by
    have hU2 := hU.kept hk (fun e => hg.1 e.symm) (fun e => hg.2.1 e.symm) (fun e => hg.2.2.1 e.symm) (fun e => hg.2.2.2 e.symm)
    exact busy_any hU2.bk hU2.h2 hU2.h3 x ht (hs x)
  have hz : ∀ w, (zeroValue (Tryd.delS_ren.t 23)).run Tryd.prog w = .ok (Value.string ⟨#[]⟩) w := fun w => by kernel_rfl
  have := AnyE.slices_DeleteFunc Tryd.delS Value.string oneCellS (fun x => usedB tick ago (getI x al)) 72 #[.pointer (some ⟨b2, 0, none⟩), .pointer (some ⟨b3, 0, none⟩)]
    (enters_of Tryd.func72 (by kernel_rfl) rfl) ⟨#[]⟩ hz g o c L.toArray w (fun W x hb => key W (Keeps.of_below hb) x) (fun n os dk x _ => key _ (keeps_sortWorld _ _ _ _ _ _ _) x) hH (by
      have := hcap
      have h2 := hS.2
      rcases h2 with ⟨h1, h2⟩ | ⟨g', o', cap', cur, h1, h2, h3, h4, -⟩
      · cases h1
      · simp only [Value.slice.injEq] at h1
        simp only [maxLen] at h4
        simp
        omega) (by simpa using hcap)
  simp only [List.size_toArray] at this
  refine this.mono ?_
  rintro e w' ⟨rfl, q, hw⟩
  have hk : Keeps (fun i => i = g) w w' := by rw [hw]; exact keeps_putRow _ _ _ _ _ _
  refine ⟨rfl, hk, ⟨Keeps.refl _ _, fun j x hx => ?_, Nat.lt_of_lt_of_le hlt hk.size⟩, hcap⟩
  generalize hF : (L.filter fun k => !usedB tick ago (getI k al)) = F at hx hw
  have hFl : F.length ≤ L.length := by rw [← hF]; exact List.length_filter_le _ _
  have hH2 := holds_putRow Value.string (Sort.ahead w q) g o L.toArray (F ++ List.replicate (L.length - F.length) (⟨#[]⟩ : ByteArray)).toArray hH (by simp; omega)
  have hjl : j < F.length := (List.getElem?_eq_some_iff.1 hx).1
  have hjl2 : j < (F ++ List.replicate (L.length - F.length) (⟨#[]⟩ : ByteArray)).toArray.size := by simp; omega
  have h3 := hH2 j hjl2
  rw [getElem!_pos _ j hjl2] at h3
  have hxe : (F ++ List.replicate (L.length - F.length) (⟨#[]⟩ : ByteArray)).toArray[j] = x := by
    rw [List.getElem?_eq_getElem hjl] at hx
    simp only [List.getElem_toArray, List.getElem_append_left hjl]
    exact Option.some.inj hx
  rw [hxe] at h3
  rw [hw]
  exact h3

set_option maxRecDepth 10000 in
theorem index_nil (f : Value) (w : World) : Calls Tryd.prog 97 #[.slice none 0 0, f] w fun e w' => e = .returned (.int .i64 (-1)) ∧ w' = w := by
  go_enter Tryd.func97, Tryd.ntmps97
  go_wp2_with fail
  go_loopg [8] 1 (fun q s8 wr => s8 = .int .i64 0 ∧ w = wr)
  case atStart => exact ⟨rfl, rfl⟩
  case round =>
    obtain ⟨rfl, rfl⟩ := hrel
    go_wp2_with fail
    go_ret
    exact ⟨rfl, rfl⟩
set_option maxRecDepth 10000 in
theorem del_nil (f : Value) (w : World) : Calls Tryd.prog 70 #[.slice none 0 0, f] w fun e w' => e = .returned (.slice none 0 0) ∧ w' = w := by
  have HI := hid (index_nil f w)
  go_enter Tryd.func70, Tryd.ntmps70
  go_wp2_with (go_at_call 97; go_must (with_reducible refine HI.out.mono ?_); rintro e w1 ⟨rfl, hw1⟩; have HW1 := hid hw1; clear hw1)
  go_ret
  exact ⟨rfl, HW1.out⟩
set_option maxRecDepth 10000 in
theorem ins_nil (f : Value) (w : World) : Calls Tryd.prog 114 #[.slice none 0 0, .int .i64 0, .int .i64 0, f] w fun e w' => e = .returned (.tuple #[]) ∧ w' = w := by
  go_enter Tryd.func114, Tryd.ntmps114
  go_wp2_with fail
  go_loopg [8] 1 (fun q s8 wr => s8 = .int .i64 1 ∧ w = wr)
  case atStart => exact ⟨rfl, rfl⟩
  case round =>
    obtain ⟨rfl, rfl⟩ := hrel
    go_wp2_with fail
    first
      | refine bodyPost_end (results_none rfl _ _ _) rfl ?_
      | refine bodyPost_ret (v := .tuple #[]) (by simp [results, Tryd.results114, go_sem]) rfl ?_
    exact ⟨rfl, rfl⟩
set_option maxRecDepth 10000 in
theorem stable_nil (f : Value) (w : World) : Calls Tryd.prog 98 #[.slice none 0 0, .int .i64 0, f] w fun e w' => e = .returned (.tuple #[]) ∧ w' = w := by
  have HI := hid (ins_nil f w)
  go_enter Tryd.func98, Tryd.ntmps98
  go_wp2_with fail
  go_loopg [7, 8] 1 (fun q s7 s8 wr => s7 = .int .i64 0 ∧ s8 = .int .i64 20 ∧ w = wr)
  case atStart => exact ⟨rfl, rfl, rfl⟩
  case round =>
    obtain ⟨rfl, rfl, rfl⟩ := hrel
    go_wp2_with (go_at_call 114; go_must (with_reducible refine HI.out.mono ?_); rintro e w1 ⟨rfl, hI⟩; have HI2 := hid hI; clear hI)
    go_loopg [6] 1 (fun q s6 wr => s6 = .int .i64 20 ∧ w1 = wr)
    case atStart => exact ⟨rfl, rfl⟩
    case round =>
      obtain ⟨rfl, rfl⟩ := hrel
      go_wp2_with fail
      first
        | refine bodyPost_end (results_none rfl _ _ _) rfl ?_
        | refine bodyPost_ret (v := .tuple #[]) (by simp [results, Tryd.results98, go_sem]) rfl ?_
      exact ⟨rfl, HI2.out⟩
set_option maxRecDepth 10000 in
theorem sort_nil (f : Value) (w : World) : Calls Tryd.prog 73 #[.slice none 0 0, f] w fun e w' => e = .returned (.tuple #[]) ∧ w' = w := by
  have HI := hid (stable_nil f w)
  go_enter Tryd.func73, Tryd.ntmps73
  go_wp2_with (go_at_call 98; go_must (with_reducible refine HI.out.mono ?_); rintro e w1 ⟨rfl, hI⟩; have HI2 := hid hI; clear hI)
  first
    | refine bodyPost_end (results_none rfl _ _ _) rfl ?_
    | refine bodyPost_ret (v := .tuple #[]) (by simp [results, Tryd.results73, go_sem]) rfl ?_
  exact ⟨rfl, HI2.out⟩

/-- A row of texts of the call's own, or none. -/
structure RS (W0 W : World) (A : Option Addr) (n c : Nat) (xs : List ByteArray) : Prop where
  low : Below W0.heap.size W0 W
  len : n = xs.length
  alt : (A = none ∧ c = 0 ∧ xs = []) ∨ ∃ g o, A = some ⟨g, o, none⟩ ∧ IS W W g o xs ∧ xs.length ≤ c ∧ W0.heap.size ≤ g
theorem IS.self {w W : World} {g o : Nat} {xs : List ByteArray} (h : IS w W g o xs) : IS W W g o xs := ⟨Keeps.refl _ _, h.cells, Nat.lt_of_lt_of_le h.lt h.keeps.size⟩
theorem US.lts {w : World} {p mb b2 b3 : Nat} {al : IL} {tick ago : Int} (h : US w p mb b2 b3 al tick ago) : p < w.heap.size ∧ mb < w.heap.size ∧ b2 < w.heap.size ∧ b3 < w.heap.size :=
  ⟨h.bk.lt.1, h.bk.lt.2, World.block_lt_of_cell? _ _ h.h2, World.block_lt_of_cell? _ _ h.h3⟩
theorem del_rs {W0 w : World} {p mb b2 b3 : Nat} {al : IL} {tick ago : Int} (hU : US W0 p mb b2 b3 al tick ago) (ht : 0 ≤ tick ∧ tick ≤ 1000000) (hs : ∀ k, 0 ≤ (getI k al).2.2 ∧ (getI k al).2.2 ≤ 1000000) {v : Value} {L : List ByteArray} (hL : LS W0 w v L) :
    Calls Tryd.prog 70 #[v, .func (.func 72) #[] #[.pointer (some ⟨b2, 0, none⟩), .pointer (some ⟨b3, 0, none⟩)]] w fun e w' =>
      ∃ A n c, e = .returned (.slice A n c) ∧ RS W0 w' A n c (L.filter fun k => !usedB tick ago (getI k al)) := by
  have hl := hU.lts
  rcases SlRow.form hL.sl with ⟨rfl, h2⟩ | ⟨g, o, c, rfl⟩
  · have hLe : L = [] := by cases L with
      | nil => rfl
      | cons a r => simp at h2
    refine (del_nil _ w).mono ?_
    rintro e w' ⟨rfl, rfl⟩
    exact ⟨none, 0, 0, rfl, hL.low, by rw [hLe]; rfl, .inl ⟨rfl, rfl, by rw [hLe]; rfl⟩⟩
  · have hg := hL.new g rfl
    refine (del_some (hU.below hL.low) ht hs (by omega) hL.sl).mono ?_
    rintro e w' ⟨rfl, hk, hI, hc⟩
    exact ⟨_, _, _, rfl, hL.low.trans (hk.below hL.low.size (fun i hi => by rw [hi]; exact hg)), rfl, .inr ⟨g, o, rfl, hI, Nat.le_trans (List.length_filter_le _ _) hc, hg⟩⟩
/-- How the unused are put in order. -/
def cmpS (al : IL) (a b : ByteArray) : Int := cmpI (getI a al).2.2 (getI b al).2.2
theorem sort_rs {W0 w : World} {p mb b2 b3 : Nat} {al : IL} {tick ago : Int} (hU : US W0 p mb b2 b3 al tick ago) {A : Option Addr} {n c : Nat} {xs : List ByteArray} (hR : RS W0 w A n c xs) (hn : xs.length < 20) :
    Calls Tryd.prog 73 #[.slice A n c, .func (.func 74) #[] #[.pointer (some ⟨b2, 0, none⟩)]] w fun e w' =>
      e = .returned (.tuple #[]) ∧ RS W0 w' A n c (sortC (cmpS al) xs) := by
  have hl := hU.lts
  have hlen := hR.len
  subst hlen
  have hsl : (sortC (cmpS al) xs).length = xs.length := insN_length _ _ _
  rcases hR.alt with ⟨rfl, rfl, rfl⟩ | ⟨g, o, rfl, hI, hc, hg⟩
  · refine (sort_nil _ w).mono ?_
    rintro e w' ⟨rfl, rfl⟩
    exact ⟨rfl, hR.low, rfl, .inl ⟨rfl, rfl, rfl⟩⟩
  · have hU2 := hU.below hR.low
    refine (sort_any hI hc hn (cmp := cmpS al) (fun V hV a b => by
      have hU3 := hU2.kept hV (by omega) (by omega) (by omega) (by omega)
      exact since_any hU3.bk hU3.h2 a b)).mono ?_
    rintro e w' ⟨rfl, hI2⟩
    exact ⟨rfl, hR.low.trans (hI2.keeps.below hR.low.size (fun i hi => by rw [hi]; exact hg)), hsl.symm, .inr ⟨g, o, rfl, hI2.self, by rw [hsl]; exact hc, hg⟩⟩
/-- What is unused for that long, rising by name. -/
def unusedA (tick ago : Int) (al : IL) : List ByteArray := (listA al).filter fun k => !usedB tick ago (getI k al)
theorem unusedA_length (tick ago : Int) (al : IL) : (unusedA tick ago al).length ≤ al.length := by
  unfold unusedA listA
  have := namesA_length al
  exact Nat.le_trans (List.length_filter_le _ _) (Nat.le_trans (List.length_filter_le _ _) (by omega))
end Go.Proofs.YtmgcapccgncmkaaDoor.Im
