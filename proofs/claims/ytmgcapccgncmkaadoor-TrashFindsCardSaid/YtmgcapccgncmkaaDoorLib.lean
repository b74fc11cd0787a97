/- Words of our own, over any program: frames of worlds; maps as lists of pairs. -/
import Derived.WalkKit
import Derived.Maps.AppendAt
import Derived.Maps.RangeRun
import Derived.MapKept
import Derived.MapFrom
import Derived.Laws.IdiomRangeMap
namespace Go.Pv
open Go

/-- Of what was there, only blocks of F have turned. -/
structure Keeps (F : Nat → Prop) (w w' : World) : Prop where
  os : w'.os = w.os
  tape : w'.tape = w.tape
  output : w'.output = w.output
  size : w.heap.size ≤ w'.heap.size
  block : ∀ k, k < w.heap.size → ¬ F k → w'.heap[k]? = w.heap[k]?

theorem Keeps.refl (F : Nat → Prop) (w : World) : Keeps F w w := ⟨rfl, rfl, rfl, Nat.le_refl _, fun _ _ _ => rfl⟩

theorem Keeps.trans {F F' : Nat → Prop} {a b c : World} (h : Keeps F a b) (k : Keeps F' b c) (hF : ∀ i, F' i → F i ∨ a.heap.size ≤ i) : Keeps F a c :=
  ⟨k.os.trans h.os, k.tape.trans h.tape, k.output.trans h.output, Nat.le_trans h.size k.size, fun i hi hn =>
    (k.block i (Nat.lt_of_lt_of_le hi h.size) (fun hf => by rcases hF i hf with h1 | h1; exact hn h1; omega)).trans (h.block i hi hn)⟩

theorem Keeps.mono {F F' : Nat → Prop} {a b : World} (h : Keeps F a b) (hF : ∀ i, F i → F' i) : Keeps F' a b :=
  ⟨h.os, h.tape, h.output, h.size, fun i hi hn => h.block i hi (fun hf => hn (hF i hf))⟩

theorem Keeps.drew {F : Nat → Prop} {a b : World} (h : Keeps F a b) : Keeps F a b.drew := ⟨h.os, h.tape, h.output, h.size, h.block⟩

theorem Keeps.alloc {F : Nat → Prop} {a b : World} (h : Keeps F a b) (o : Obj) : Keeps F a (b.alloc o) :=
  ⟨h.os, h.tape, h.output, by simp; exact Nat.le_succ_of_le h.size, fun i hi hn => by
    rw [RowKit.Below.heap_alloc b o i (Nat.lt_of_lt_of_le hi h.size)]; exact h.block i hi hn⟩

theorem Keeps.setCell {F : Nat → Prop} {a b : World} (h : Keeps F a b) (p : Addr) (v : Value) (hp : F p.block ∨ a.heap.size ≤ p.block) : Keeps F a (b.setCell p v) :=
  ⟨h.os, h.tape, h.output, by simp; exact h.size, fun i hi hn => by
    rw [RowKit.Below.heap_setCell b p v i (fun e => by subst e; rcases hp with h1 | h1; exact hn h1; omega)]; exact h.block i hi hn⟩

theorem Keeps.grown {F : Nat → Prop} {a b c : World} {row : Option Nat} (h : Keeps F a b) (g : b.grownBy c row) (hr : ∀ k, row = some k → F k ∨ a.heap.size ≤ k) : Keeps F a c :=
  ⟨g.os.trans h.os, g.tape.trans h.tape, g.output.trans h.output, Nat.le_trans h.size g.size, fun i hi hn =>
    (g.block i (Nat.lt_of_lt_of_le hi h.size) (fun e => by rcases hr i e.symm with h1 | h1; exact hn h1; omega)).trans (h.block i hi hn)⟩

theorem Keeps.of_below {F : Nat → Prop} {a b : World} (h : RowKit.Below a.heap.size a b) : Keeps F a b := ⟨h.os, h.tape, h.output, h.size, fun i hi _ => h.block i hi⟩

theorem Keeps.below {F : Nat → Prop} {B : Nat} {a b : World} (h : Keeps F a b) (hB : B ≤ a.heap.size) (hF : ∀ i, F i → B ≤ i) : RowKit.Below B a b :=
  ⟨h.os, h.tape, h.output, h.size, fun i hi => h.block i (by omega) (fun hf => by have := hF i hf; omega)⟩

theorem Keeps.cell {F : Nat → Prop} {a b : World} (h : Keeps F a b) {p : Addr} (hp : p.block < a.heap.size) (hn : ¬ F p.block) : b.cell? p = a.cell? p :=
  World.cell?_of_block (w := a) (h.block p.block hp hn)

theorem Keeps.frozen {F : Nat → Prop} {a b : World} (h : Keeps F a b) {p : Addr} (hp : p.block < a.heap.size) (hn : ¬ F p.block) : b.frozen? p = a.frozen? p :=
  World.frozen?_of_block (w := a) (h.block p.block hp hn)

/-! ### lists of pairs -/
section
variable {κ ν : Type} [DecidableEq κ]
def aget (a : κ) : List (κ × ν) → Option ν
  | [] => none
  | p :: l => if p.1 = a then some p.2 else aget a l
def aset (a : κ) (v : ν) : List (κ × ν) → List (κ × ν)
  | [] => [(a, v)]
  | p :: l => if p.1 = a then (a, v) :: l else p :: aset a v l
def adel (a : κ) : List (κ × ν) → List (κ × ν)
  | [] => []
  | p :: l => if p.1 = a then l else p :: adel a l
end

/-! ### the entries of a map -/
def findE {κ : Type} [DecidableEq κ] (a : κ) : List κ → List MapEntry → Nat → Option (Nat × Value)
  | k :: ks, e :: es, i => if k = a then some (i, e.val) else findE a ks es (i + 1)
  | _, _, _ => none

/-- What the laws need of a key's type: keys are told by κ. -/
structure KeyT (P : Program) (kt : TypeId) {κ : Type} [DecidableEq κ] (ke : κ → Value) : Prop where
  inj : ∀ {a b}, ke a = ke b → a = b
  check : ∀ (em : Bool) (w : World) (a : κ), (Instr.checkKey em 10000 kt (ke a)).run P w = .ok () w
  find : ∀ (w : World) (a : κ) (es : List MapEntry) (ks : List κ), es.map (·.key) = ks.map ke → (Instr.findKey kt (ke a) es).run P w = .ok (findE a ks es 0) w
  stays : ∀ (w : World) (a : κ), (Instr.keyThatStays (ke a) (ke a)).run P w = .ok (ke a) w

/-- Block b of w is a map that holds the pairs al, in the order in which their keys came. -/
def IsMap {κ : Type} (w : World) (b : Nat) (ke : κ → Value) (al : List (κ × Value)) : Prop :=
  ∃ es clock, w.heap[b]? = some (.map es clock) ∧ es.toList.map (fun e => (e.key, e.val)) = al.map (fun p => (ke p.1, p.2)) ∧
    (es.toList.map (·.born)).Nodup ∧ ∀ e ∈ es.toList, e.born < clock

section
variable {κ : Type} {P : Program} {kt : TypeId} {ke : κ → Value}

theorem IsMap.of_block {w w' : World} {b : Nat} {al : List (κ × Value)} (h : IsMap w b ke al) (hb : w'.heap[b]? = w.heap[b]?) : IsMap w' b ke al := by
  obtain ⟨es, clock, h1, h2⟩ := h
  exact ⟨es, clock, hb.trans h1, h2⟩

theorem IsMap.lt {w : World} {b : Nat} {al : List (κ × Value)} (h : IsMap w b ke al) : b < w.heap.size := by
  obtain ⟨es, clock, h1, _⟩ := h
  exact (Array.getElem?_eq_some_iff.1 h1).1

theorem IsMap.kept {w w' : World} {F : Nat → Prop} {b : Nat} {al : List (κ × Value)} (h : IsMap w b ke al) (k : Keeps F w w') (hn : ¬ F b) : IsMap w' b ke al := h.of_block (k.block b h.lt hn)

theorem IsMap.made (w : World) (ke : κ → Value) : IsMap (w.alloc (.map #[] 0)) w.heap.size ke [] :=
  ⟨#[], 0, heap_alloc_new w _, by simp, by simp, by simp⟩

theorem keys_of {es : List MapEntry} {al : List (κ × Value)} (h : es.map (fun e => (e.key, e.val)) = al.map (fun p => (ke p.1, p.2))) : es.map (·.key) = (al.map (·.1)).map ke := by
  have := congrArg (List.map (·.1)) h
  simpa [List.map_map, Function.comp_def] using this

theorem IsMap.len {w : World} {b : Nat} {al : List (κ × Value)} (h : IsMap w b ke al) {t k e ty : TypeId} (ht : P.underlying t = some (.map k e)) :
    (Builtin.len_ #[t] ty #[.map (some b)]).run P w = .ok (.int .i64 al.length) w := by
  obtain ⟨es, clock, h1, h2, _⟩ := h
  have : es.size = al.length := by simpa using congrArg List.length h2
  simp [Builtin.len_, run_underlying ht, getObj, Sem.run, h1, goInt, this]
end

section
variable {κ : Type} [DecidableEq κ] {P : Program} {kt : TypeId} {ke : κ → Value}

theorem findE_aget (a : κ) : ∀ (es : List MapEntry) (al : List (κ × Value)) (i : Nat), es.map (fun e => (e.key, e.val)) = al.map (fun p => (ke p.1, p.2)) →
    (findE a (al.map (·.1)) es i).map (·.2) = aget a al
  | [], [], _, _ => rfl
  | e :: es, p :: al, i, h => by
    simp only [List.map_cons, List.cons.injEq, Prod.mk.injEq] at h
    simp only [List.map_cons, findE, aget]
    split
    · simp [h.1.2]
    · exact findE_aget a es al (i + 1) h.2
  | [], _ :: _, _, h => by simp at h
  | _ :: _, [], _, h => by simp at h

theorem IsMap.lookup {w : World} {b : Nat} {al : List (κ × Value)} (h : IsMap w b ke al) (K : KeyT P kt ke) {t e : TypeId} (ht : P.underlying t = some (.map kt e)) {z : Value} (hz : ∀ w, (zeroValue e).run P w = .ok z w) (a : κ) :
    (Instr.lookup t (.map (some b)) (ke a) false).run P w = .ok ((aget a al).getD z) w := by
  obtain ⟨es, clock, h1, h2, _⟩ := h
  simp only [Instr.lookup, Sem.run_bind, run_underlying ht, Result.andThen_ok, getObj, Sem.run, h1, Sem.run_pure, K.check, K.find w a es.toList (al.map (·.1)) (keys_of h2)]
  have := findE_aget (ke := ke) a es.toList al 0 h2
  cases hf : findE a (al.map (·.1)) es.toList 0 with
  | none => rw [hf] at this; simp only [Option.map_none] at this; rw [← this]; simp [hz]
  | some r => rw [hf] at this; simp only [Option.map_some] at this; rw [← this]; cases r; simp

theorem IsMap.lookup_ok {w : World} {b : Nat} {al : List (κ × Value)} (h : IsMap w b ke al) (K : KeyT P kt ke) {t e : TypeId} (ht : P.underlying t = some (.map kt e)) {z : Value} (hz : ∀ w, (zeroValue e).run P w = .ok z w) (a : κ) :
    (Instr.lookup t (.map (some b)) (ke a) true).run P w = .ok (.tuple #[(aget a al).getD z, .bool (aget a al).isSome]) w := by
  obtain ⟨es, clock, h1, h2, _⟩ := h
  simp only [Instr.lookup, Sem.run_bind, run_underlying ht, Result.andThen_ok, getObj, Sem.run, h1, Sem.run_pure, K.check, K.find w a es.toList (al.map (·.1)) (keys_of h2)]
  have := findE_aget (ke := ke) a es.toList al 0 h2
  cases hf : findE a (al.map (·.1)) es.toList 0 with
  | none => rw [hf] at this; simp only [Option.map_none] at this; rw [← this]; simp [hz]
  | some r => rw [hf] at this; simp only [Option.map_some] at this; rw [← this]; cases r; simp

theorem findE_none {a : κ} : ∀ (es : List MapEntry) (al : List (κ × Value)) (v : Value) (i : Nat), es.map (fun e => (e.key, e.val)) = al.map (fun p => (ke p.1, p.2)) →
    findE a (al.map (·.1)) es i = none → aset a v al = al ++ [(a, v)] ∧ adel a al = al
  | [], [], v, i, _, _ => ⟨rfl, rfl⟩
  | e :: es, p :: al, v, i, h, hf => by
    simp only [List.map_cons, List.cons.injEq, Prod.mk.injEq] at h
    simp only [List.map_cons, findE] at hf
    split at hf
    · cases hf
    · rename_i hne
      obtain ⟨r1, r2⟩ := findE_none es al v (i + 1) h.2 hf
      simp [aset, adel, hne, r1, r2]
  | [], _ :: _, _, _, h, _ => by simp at h
  | _ :: _, [], _, _, h, _ => by simp at h

theorem findE_some {a : κ} : ∀ (es : List MapEntry) (al : List (κ × Value)) (v : Value) (i j : Nat) (u : Value), es.map (fun e => (e.key, e.val)) = al.map (fun p => (ke p.1, p.2)) →
    findE a (al.map (·.1)) es i = some (j, u) → ∃ m, j = i + m ∧ m < es.length ∧ (∃ e, es[m]? = some e ∧ e.key = ke a) ∧
      (es.modify m fun e => { e with key := ke a, val := v }).map (fun e => (e.key, e.val)) = (aset a v al).map (fun p => (ke p.1, p.2)) ∧
      (es.eraseIdx m).map (fun e => (e.key, e.val)) = (adel a al).map (fun p => (ke p.1, p.2))
  | e :: es, p :: al, v, i, j, u, h, hf => by
    simp only [List.map_cons, List.cons.injEq, Prod.mk.injEq] at h
    simp only [List.map_cons, findE] at hf
    split at hf
    · rename_i hp
      simp only [Option.some.injEq, Prod.mk.injEq] at hf
      refine ⟨0, by omega, by simp, ⟨e, rfl, by rw [h.1.1, hp]⟩, ?_, ?_⟩
      · simp [aset, hp, h.2]
      · simp [adel, hp, h.2]
    · rename_i hne
      obtain ⟨m, r1, r2, r3, r4, r5⟩ := findE_some es al v (i + 1) j u h.2 hf
      refine ⟨m + 1, by omega, by simp; exact r2, by simpa using r3, ?_, ?_⟩
      · simp [aset, hne, h.1, r4]
      · simp [adel, hne, h.1, r5]
  | [], [], _, _, _, _, _, hf => by simp [findE] at hf
  | [], _ :: _, _, _, _, _, h, _ => by simp at h
  | _ :: _, [], _, _, _, _, h, _ => by simp at h

/-- The world with another object in a block. -/
def setObj' (w : World) (b : Nat) (o : Obj) : World := { w with heap := w.heap.setIfInBounds b o }

theorem setObj'_same {w : World} {b : Nat} (h : b < w.heap.size) (o : Obj) : (setObj' w b o).heap[b]? = some o := by simp [setObj', h]
theorem setObj'_other {w : World} {b k : Nat} (h : k ≠ b) (o : Obj) : (setObj' w b o).heap[k]? = w.heap[k]? := by
  simp only [setObj', Array.getElem?_setIfInBounds]
  rw [if_neg (fun e => h e.symm)]

theorem Keeps.setObj {F : Nat → Prop} {a c : World} (h : Keeps F a c) {b : Nat} (hb : F b ∨ a.heap.size ≤ b) (o : Obj) : Keeps F a (setObj' c b o) :=
  ⟨h.os, h.tape, h.output, by simp [setObj']; exact h.size, fun i hi hn => by
    rw [setObj'_other (fun e => by subst e; rcases hb with h1 | h1; exact hn h1; omega)]; exact h.block i hi hn⟩

theorem run_setObj_map {w : World} {b : Nat} {es : Array MapEntry} {clock : Nat} (h : w.heap[b]? = some (.map es clock)) (o : Obj) : (Go.setObj b o).run P w = .ok () (setObj' w b o) := by
  simp [Go.setObj, Sem.run, h, setObj']

theorem IsMap.update {w : World} {b : Nat} {al : List (κ × Value)} (h : IsMap w b ke al) (K : KeyT P kt ke) {t e : TypeId} (ht : P.underlying t = some (.map kt e)) (a : κ) (v : Value) :
    ∃ w', (Instr.mapUpdate t (.map (some b)) (ke a) v).run P w = .ok () w' ∧ IsMap w' b ke (aset a v al) ∧ Keeps (· = b) w w' ∧ w'.heap.size = w.heap.size := by
  have hlt := h.lt
  obtain ⟨es, clock, h1, h2, h3, h4⟩ := h
  have hobj : ∀ o, Keeps (· = b) w (setObj' w b o) := fun o => Keeps.setObj (F := fun i => i = b) (Keeps.refl _ w) (.inl rfl) o
  have hsz : ∀ o, (setObj' w b o).heap.size = w.heap.size := fun o => by simp [setObj']
  cases hf : findE a (al.map (·.1)) es.toList 0 with
  | none =>
    refine ⟨setObj' w b (.map (es.push { key := ke a, val := v, born := clock }) (clock + 1)), ?_, ⟨_, _, setObj'_same hlt _, ?_, ?_, ?_⟩, hobj _, hsz _⟩
    · simp only [Instr.mapUpdate, Sem.run_bind, run_underlying ht, Result.andThen_ok, getObj, Sem.run, h1, K.check, K.find w a es.toList (al.map (·.1)) (keys_of h2), hf, run_setObj_map h1]
    · have := (findE_none (ke := ke) (a := a) es.toList al v 0 h2 hf).1
      rw [this]
      simp [h2]
    · simp only [Array.toList_push, List.map_append, List.map_cons, List.map_nil]
      rw [List.nodup_append]
      refine ⟨h3, by simp, ?_⟩
      intro x hx y hy
      simp only [List.mem_singleton] at hy
      obtain ⟨e, he, rfl⟩ := List.mem_map.1 hx
      have := h4 e he
      omega
    · intro e he
      simp only [Array.toList_push, List.mem_append, List.mem_singleton] at he
      rcases he with he | rfl
      · have := h4 e he; omega
      · simp
  | some r =>
    obtain ⟨j, u⟩ := r
    obtain ⟨m, hj, hm, ⟨e0, he0, hk0⟩, hs, _⟩ := findE_some (ke := ke) es.toList al v 0 j u h2 hf
    have hj' : j = m := by omega
    subst hj'
    have hg : es[j]? = some e0 := by simpa using he0
    refine ⟨setObj' w b (.map (es.modify j fun e => { e with key := ke a, val := v }) clock), ?_, ⟨_, _, setObj'_same hlt _, ?_, ?_, ?_⟩, hobj _, hsz _⟩
    · simp only [Instr.mapUpdate, Sem.run_bind, run_underlying ht, Result.andThen_ok, getObj, Sem.run, h1, K.check, K.find w a es.toList (al.map (·.1)) (keys_of h2), hf, hg, Option.map_some, Option.getD_some, hk0, K.stays, run_setObj_map h1]
    · simpa [Array.toList_modify] using hs
    · have : ((es.modify j fun e => { e with key := ke a, val := v }).toList.map (·.born)) = es.toList.map (·.born) := by
        rw [Array.toList_modify]
        apply List.ext_getElem?
        intro i
        rw [List.getElem?_map, List.getElem?_map, List.getElem?_modify]
        cases es.toList[i]? with
        | none => rfl
        | some x => by_cases hji : j = i <;> simp [hji]
      rw [this]; exact h3
    · intro e he
      rw [Array.toList_modify] at he
      obtain ⟨i, hi⟩ := List.mem_iff_getElem?.1 he
      rw [List.getElem?_modify] at hi
      cases hx : es.toList[i]? with
      | none => rw [hx] at hi; simp at hi
      | some x =>
        rw [hx] at hi
        have := h4 x (List.mem_of_getElem? hx)
        by_cases hji : j = i
        · simp [hji] at hi; subst hi; exact this
        · simp [hji] at hi; subst hi; exact this

end

end Go.Pv
