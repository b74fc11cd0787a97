/- Words of our own: maps whose keys are pairs of numbers. -/
import Derived.Test.YtnceglkoolfncaaMs
import Derived.Test.YtnceglkoolfncaaProg
import Derived.KernelRfl
import Derived.ChangeKeysEq
set_option linter.unusedSimpArgs false
set_option linter.unusedVariables false
set_option linter.unusedSectionVars false
namespace Go.Pv
open Go

def kp (a : Int × Int) : Value := .agg #[.int .i64 a.1, .int .i64 a.2]
theorem kp_inj {a b : Int × Int} (h : kp a = kp b) : a = b := by
  obtain ⟨a1, a2⟩ := a
  obtain ⟨b1, b2⟩ := b
  simp [kp] at h
  simp [h]

section
variable {P : Program} {kt e : TypeId} (hk : P.underlying kt = some (.array 2 e)) (he : P.underlying e = some (.int .i64)) (hi : (P.info? e).map (fun i => (i.zero, i.size, i.bytes)) = some (some (.int .i64 0), 1, 8)) (hc : P.cellsOf e = 1)
  (hp : ∀ (w : World) (a b : Int), (part e #[.int .i64 a, .int .i64 b] 0).run P w = .ok (.int .i64 a) w ∧ (part e #[.int .i64 a, .int .i64 b] 1).run P w = .ok (.int .i64 b) w)
include hk he hi hc hp
theorem kp_equal (w : World) (a b : Int × Int) : (Op.equal kt (kp a) (kp b)).run P w = .ok (decide (a = b)) w := by
  obtain ⟨a1, a2⟩ := a
  obtain ⟨b1, b2⟩ := b
  obtain ⟨i, hi0, -⟩ := info_parts hi
  have h1 := run_equalIn_array (w := w) 9999 #[.int .i64 a1, .int .i64 a2] #[.int .i64 b1, .int .i64 b2] hk hi0
  have he1 : ∀ (w : World) (x y : Int), (Op.equalIn 9999 e (.int .i64 x) (.int .i64 y)).run P w = .ok (x == y) w := by
    have he0 : ∀ (d : Nat) (w : World) (x y : Int), (Op.equalIn (d + 1) e (.int .i64 x) (.int .i64 y)).run P w = .ok (x == y) w := by
      intro d w x y
      simp [Op.equalIn, run_underlying he]
    exact he0 9998
  unfold Op.equal Op.maxDepth kp
  refine h1.trans ?_
  rw [hc]
  simp only [show List.range 2 = [0, 1] from rfl, Op.eqItems, Sem.run_bind, Nat.zero_mul, Nat.one_mul, (hp w a1 a2).1, (hp w b1 b2).1, (hp w a1 a2).2, (hp w b1 b2).2, Result.andThen_ok, he1]
  by_cases h1 : a1 = b1
  · have e1 : (a1 == b1) = true := by simp [h1]
    by_cases h2 : a2 = b2
    · have e2 : (a2 == b2) = true := by simp [h2]
      simp [e1, h1, h2, Op.eqItems, (hp w a1 a2).2, (hp w b1 b2).2, he1, Sem.run_bind]
    · have e2 : (a2 == b2) = false := by simp [h2]
      simp [e1, e2, h1, h2, Op.eqItems, Sem.run_bind, (hp w b1 a2).2, (hp w b1 b2).2, he1]
  · have e1 : (a1 == b1) = false := by simp [h1]
    simp [e1, h1]

theorem findAsk (w : World) (a : Int × Int) : ∀ (es : List MapEntry) (ks : List (Int × Int)) (i : Nat), es.map (·.key) = ks.map kp → (Instr.findAsking kt (kp a) es i).run P w = .ok (findE a ks es i) w
  | [], [], i, _ => by simp [Instr.findAsking, findE]
  | x :: es, k :: ks, i, h => by
    simp only [List.map_cons, List.cons.injEq] at h
    simp only [Instr.findAsking, h.1, Sem.run_bind, kp_equal hk he hi hc hp, Result.andThen_ok]
    by_cases hka : k = a
    · subst hka; simp [findE]
    · have : ¬ (a = k) := fun e => hka e.symm
      simp [findE, hka, this, findAsk w a es ks (i + 1) h.2]
  | [], _ :: _, _, h => by simp at h
  | _ :: _, [], _, h => by simp at h

theorem findNow_arr (a : Int × Int) (x : MapEntry) (es : List MapEntry) (k : Int × Int) (h : x.key = kp k) : Instr.findNow (.array 2 e) (kp a) (x :: es) 0 = none := by
  simp [Instr.findNow, Instr.sameNow, h, kp]

theorem pairKey (hck : ∀ (em : Bool) (w : World) (a : Int × Int), (Instr.checkKey em 10000 kt (kp a)).run P w = .ok () w) : KeyT P kt kp where
  inj := kp_inj
  check := hck
  find := fun w a es ks h => by
    cases es with
    | nil =>
      cases ks with
      | nil => simp [Instr.findKey, run_underlying hk, Instr.findNow, findE]
      | cons k ks => simp at h
    | cons x es =>
      cases ks with
      | nil => simp at h
      | cons k ks =>
        have hx : x.key = kp k := by simpa using (List.cons.inj h).1
        simp only [Instr.findKey, Sem.run_bind, run_underlying hk, Result.andThen_ok, findNow_arr hk he hi hc hp a x es k hx, findAsk hk he hi hc hp w a _ _ 0 h]
  stays := fun w a => by
    have : Instr.sameBits 10000 (kp a) (kp a) = true := by
      show Instr.sameBits (9999 + 1) (.agg #[.int .i64 a.1, .int .i64 a.2]) (.agg #[.int .i64 a.1, .int .i64 a.2]) = true
      simp [Instr.sameBits]
    simp only [Instr.keyThatStays, this, if_true, Sem.run_pure]
end
end Go.Pv
