/- Maps with keys of one kind, kept as a list of keys with what stands at them: looked up, written, deleted. -/
import Derived.Test.YtchmlhceidociaaBase
import Derived.Laws.StructEq
namespace Go.Proofs.Ytchmlhceidociaa
set_option linter.unusedVariables false
set_option linter.unusedSimpArgs false
set_option linter.unusedSectionVars false
open Go.RowKit

section
variable {K : Type} [DecidableEq K]
/-- where a key stands, and what stands there -/
def findIn (x : K) : List (K × Value) → Nat → Option (Nat × Value)
  | [], _ => none
  | p :: l, i => if x = p.1 then some (i, p.2) else findIn x l (i + 1)
def getIn (x : K) (l : List (K × Value)) : Option Value := (findIn x l 0).map (·.2)
/-- what it takes of a type of keys -/
structure KeyOf (P : Program) (k : TypeId) (enc : K → Value) : Prop where
  chk : ∀ b x w, (Instr.checkKey b 10000 k (enc x)).run P w = .ok () w
  find : ∀ (x : K) (es : List MapEntry) (l : List (K × Value)) (w : World), es.map (fun e => (e.key, e.val)) = l.map (fun p => (enc p.1, p.2)) → (Instr.findKey k (enc x) es).run P w = .ok (findIn x l 0) w
  same : ∀ x, Instr.sameBits 10000 (enc x) (enc x) = true
/-- block m is a map of those keys and elements, in that order -/
def MapAt (w : World) (m : Nat) (enc : K → Value) (l : List (K × Value)) : Prop :=
  ∃ es clock, w.heap[m]? = some (.map es clock) ∧ es.toList.map (fun e => (e.key, e.val)) = l.map (fun p => (enc p.1, p.2))
variable {w w' : World} {m : Nat} {enc : K → Value} {l : List (K × Value)}
theorem MapAt.lt (h : MapAt w m enc l) : m < w.heap.size := by
  obtain ⟨_, _, h, _⟩ := h; exact lt_of_some h
theorem MapAt.of_block (h : MapAt w m enc l) (hb : w'.heap[m]? = w.heap[m]?) : MapAt w' m enc l := by
  obtain ⟨es, c, h, hs⟩ := h; exact ⟨es, c, hb.trans h, hs⟩
theorem MapAt.keep {S : Nat → Prop} (h : MapAt w m enc l) (hu : Upd S w w') (hm : ¬ S m) : MapAt w' m enc l := h.of_block (hu.block m h.lt hm)
theorem MapAt.ext (h : MapAt w m enc l) (hb : Below w.heap.size w w') : MapAt w' m enc l := h.of_block (hb.block m h.lt)
theorem MapAt.new (w : World) (enc : K → Value) : MapAt (w.alloc (.map #[] 0)) w.heap.size enc ([] : List (K × Value)) := ⟨#[], 0, heap_alloc_new w _, by simp⟩
theorem MapAt.ne_cells {a : Nat} {t : TypeId} {cs : Array Value} {z : Nat × Nat} (h : MapAt w m enc l) (ha : w.heap[a]? = some (.cells cs t z)) : a ≠ m := by
  rintro rfl
  obtain ⟨es, c, h, _⟩ := h
  rw [ha] at h; cases h
theorem findIn_le {x : K} : ∀ {l : List (K × Value)} {i j : Nat} {v : Value}, findIn x l i = some (j, v) → i ≤ j ∧ l[j - i]? = some (x, v)
  | [], _, _, _, h => by simp [findIn] at h
  | p :: l, i, j, v, h => by
    unfold findIn at h
    split at h
    · rename_i hx
      injection h with h; injection h with h1 h2
      subst h1 h2
      refine ⟨Nat.le_refl _, ?_⟩
      rw [Nat.sub_self, List.getElem?_cons_zero, hx]
    · have := findIn_le h
      refine ⟨by omega, ?_⟩
      rw [show j - i = (j - (i + 1)) + 1 by omega, List.getElem?_cons_succ]
      exact this.2
theorem findIn_none {x : K} : ∀ {l : List (K × Value)} {i : Nat}, findIn x l i = none ↔ x ∉ l.map (·.1)
  | [], _ => by simp [findIn]
  | p :: l, i => by
    unfold findIn
    split
    · rename_i hx; simp [hx]
    · rename_i hx; rw [findIn_none]; simp [hx]
theorem findIn_shift {x : K} : ∀ (l : List (K × Value)) (i : Nat), findIn x l i = (findIn x l 0).map fun p => (p.1 + i, p.2)
  | [], _ => rfl
  | p :: l, i => by
    unfold findIn
    split
    · simp
    · rw [findIn_shift l (i + 1), findIn_shift l (0 + 1)]
      cases findIn x l 0 <;> simp
      omega
theorem getIn_none {x : K} {l : List (K × Value)} : getIn x l = none ↔ x ∉ l.map (·.1) := by
  unfold getIn; rw [Option.map_eq_none_iff]; exact findIn_none
theorem getIn_nil (x : K) : getIn x [] = none := rfl
theorem getIn_cons (x : K) (p : K × Value) (l : List (K × Value)) : getIn x (p :: l) = if x = p.1 then some p.2 else getIn x l := by
  unfold getIn
  rw [findIn]
  split
  · rfl
  · rw [findIn_shift]
    cases findIn x l 0 <;> rfl

variable {P : Program} {T k e : TypeId}
/-- 'm[x]', 'v, ok := m[x]' -/
theorem run_look (ht : P.underlying T = some (.map k e)) (hk : KeyOf P k enc) (h : MapAt w m enc l) {z : Value} (hz : ∀ w, (zeroValue e).run P w = .ok z w) (x : K) (ok : Bool) :
    (Instr.lookup T (.map (some m)) (enc x) ok).run P w = .ok (if ok then .tuple #[(getIn x l).getD z, .bool (getIn x l).isSome] else (getIn x l).getD z) w := by
  obtain ⟨es, clock, hm, hs⟩ := h
  have hf := hk.find x es.toList l w hs
  have hg : Sem.run P (getObj m) w = .ok (.map es clock) w := by simp [getObj, Sem.run, hm]
  have hc := hk.chk es.isEmpty x w
  simp only [Instr.lookup, Sem.run_bind, run_underlying ht, Result.andThen_ok, hg, Sem.run_pure, hc, hf]
  unfold getIn
  cases findIn x l 0 with
  | none => cases ok <;> simp [hz]
  | some p => cases ok <;> simp

/-- what stands behind 'm[x] = v' -/
def putIn (x : K) (v : Value) (l : List (K × Value)) : List (K × Value) :=
  match findIn x l 0 with
  | some (i, _) => l.set i (x, v)
  | none => l ++ [(x, v)]
theorem hupd_map (hm : m < w.heap.size) (es' : Array MapEntry) (c' : Nat) : Upd (· = m) w { w with heap := w.heap.setIfInBounds m (.map es' c') } ∧
    (({ w with heap := w.heap.setIfInBounds m (.map es' c') } : World).heap)[m]? = some (.map es' c') :=
  ⟨⟨rfl, rfl, rfl, by simp, fun i hi hn => by simp [Ne.symm hn]⟩, by simp [hm]⟩
theorem run_write (ht : P.underlying T = some (.map k e)) (hk : KeyOf P k enc) (h : MapAt w m enc l) (x : K) (v : Value) :
    ∃ w', (Instr.mapUpdate T (.map (some m)) (enc x) v).run P w = .ok () w' ∧ MapAt w' m enc (putIn x v l) ∧ Upd (· = m) w w' ∧ w'.heap.size = w.heap.size := by
  have hlt := h.lt
  obtain ⟨es, clock, hm, hs⟩ := h
  have hf := hk.find x es.toList l w hs
  have hg : Sem.run P (getObj m) w = .ok (.map es clock) w := by simp [getObj, Sem.run, hm]
  have hc := hk.chk false x w
  unfold putIn
  cases hfi : findIn x l 0 with
  | none =>
    rw [hfi] at hf
    obtain ⟨hu, hat⟩ := hupd_map hlt (es.push { key := enc x, val := v, born := clock }) (clock + 1)
    refine ⟨_, ?_, ⟨_, _, hat, ?_⟩, hu, by simp⟩
    · simp only [Instr.mapUpdate, Sem.run_bind, run_underlying ht, Result.andThen_ok, hg, hc, hf]
      simp [setObj, Sem.run, hm]
    · simp only [Array.toList_push, List.map_append, hs, List.map_cons, List.map_nil]
  | some p =>
    obtain ⟨i, v0⟩ := p
    rw [hfi] at hf
    have hi := (findIn_le hfi).2
    rw [Nat.sub_zero] at hi
    have hlen : es.toList.length = l.length := by have := congrArg List.length hs; simpa using this
    have hil : i < l.length := (List.getElem?_eq_some_iff.1 hi).1
    obtain ⟨e0, he0⟩ : ∃ e0, es[i]? = some e0 := ⟨es[i]'(by rw [← Array.length_toList]; omega), Array.getElem?_eq_getElem _⟩
    have hke : e0.key = enc x := by
      have h1 : (es.toList.map (fun e => (e.key, e.val)))[i]? = (l.map (fun p => (enc p.1, p.2)))[i]? := by rw [hs]
      rw [List.getElem?_map, List.getElem?_map, hi] at h1
      simp only [Array.getElem?_toList, he0, Option.map_some] at h1
      injection h1 with h1
      injection h1
    obtain ⟨hu, hat⟩ := hupd_map hlt (es.modify i fun e => { e with key := enc x, val := v }) clock
    refine ⟨_, ?_, ⟨_, _, hat, ?_⟩, hu, by simp⟩
    · simp only [Instr.mapUpdate, Sem.run_bind, run_underlying ht, Result.andThen_ok, hg, hc, hf]
      simp [setObj, Sem.run, hm, Instr.keyThatStays, he0, hke, hk.same]
    · apply List.ext_getElem?
      intro j
      have h1 : (es.toList.map (fun e => (e.key, e.val)))[j]? = (l.map (fun p => (enc p.1, p.2)))[j]? := by rw [hs]
      rw [List.getElem?_map, List.getElem?_map] at h1
      rw [List.getElem?_map, List.getElem?_map, List.getElem?_set, Array.getElem?_toList, Array.getElem?_modify]
      by_cases hij : i = j
      · subst hij
        rw [if_pos rfl, if_pos rfl, he0]
        simp [hil]
      · rw [if_neg hij, if_neg hij]
        simpa using h1

theorem eraseIdx_map' {α β : Type} (f : α → β) : ∀ (l : List α) (i : Nat), (l.eraseIdx i).map f = (l.map f).eraseIdx i
  | [], i => by simp
  | a :: l, 0 => by simp
  | a :: l, i + 1 => by simp [eraseIdx_map' f l i]
/-- what stands behind 'delete(m, x)' -/
def dropIn (x : K) (l : List (K × Value)) : List (K × Value) :=
  match findIn x l 0 with
  | some (i, _) => l.eraseIdx i
  | none => l
theorem run_drop (ht : P.underlying T = some (.map k e)) (hk : KeyOf P k enc) (h : MapAt w m enc l) (x : K) (ty : TypeId) (k' : TypeId) :
    ∃ w', (Builtin.delete_ #[T, k'] ty #[.map (some m), enc x]).run P w = .ok (.tuple #[]) w' ∧ MapAt w' m enc (dropIn x l) ∧ Upd (· = m) w w' ∧ w'.heap.size = w.heap.size := by
  have hlt := h.lt
  obtain ⟨es, clock, hm, hs⟩ := h
  have hf := hk.find x es.toList l w hs
  have hg : Sem.run P (getObj m) w = .ok (.map es clock) w := by simp [getObj, Sem.run, hm]
  have hc := hk.chk es.isEmpty x w
  unfold dropIn
  cases hfi : findIn x l 0 with
  | none =>
    rw [hfi] at hf
    obtain ⟨hu, hat⟩ := hupd_map hlt es clock
    refine ⟨_, ?_, ⟨_, _, hat, hs⟩, hu, by simp⟩
    have e1 : (#[T, k'] : Array TypeId)[0]? = some T := rfl
    have e2 : (#[Value.map (some m), enc x] : Array Value)[0]? = some (.map (some m)) := rfl
    have e3 : (#[Value.map (some m), enc x] : Array Value)[1]? = some (enc x) := rfl
    simp only [Builtin.delete_, e1, e2, e3, Sem.run_bind, run_underlying ht, Result.andThen_ok, hg, hc, hf]
    simp [setObj, Sem.run, hm]
  | some p =>
    obtain ⟨i, v0⟩ := p
    rw [hfi] at hf
    obtain ⟨hu, hat⟩ := hupd_map hlt (es.eraseIdxIfInBounds i) clock
    refine ⟨_, ?_, ⟨_, _, hat, ?_⟩, hu, by simp⟩
    · have e1 : (#[T, k'] : Array TypeId)[0]? = some T := rfl
      have e2 : (#[Value.map (some m), enc x] : Array Value)[0]? = some (.map (some m)) := rfl
      have e3 : (#[Value.map (some m), enc x] : Array Value)[1]? = some (enc x) := rfl
      simp only [Builtin.delete_, e1, e2, e3, Sem.run_bind, run_underlying ht, Result.andThen_ok, hg, hc, hf]
      simp [setObj, Sem.run, hm]
    · rw [Array.toList_eraseIdxIfInBounds, eraseIdx_map', hs, eraseIdx_map']
end

/-- two numbers in a struct -/
def enc2 (p : Int × Int) : Value := .agg #[.int .i64 p.1, .int .i64 p.2]
theorem sem_ok {P : Program} {α : Type} {s : Sem α} {w : World} {r : Result α} (h : s.run P w = r) : s.run P w = r := h
theorem findAsking_ok {P : Program} {K : Type} [DecidableEq K] {k : TypeId} {enc : K → Value} (heq : ∀ x y w, (Op.equal k (enc x) (enc y)).run P w = .ok (decide (x = y)) w) (x : K) (w : World) :
    ∀ (es : List MapEntry) (l : List (K × Value)) (i : Nat), es.map (fun e => (e.key, e.val)) = l.map (fun p => (enc p.1, p.2)) → (Instr.findAsking k (enc x) es i).run P w = .ok (findIn x l i) w
  | [], [], i, _ => rfl
  | [], _ :: _, i, h => by simp at h
  | _ :: _, [], i, h => by simp at h
  | e :: es, p :: l, i, h => by
    rw [List.map_cons, List.map_cons] at h
    injection h with h1 h2
    injection h1 with hk hv
    rw [Instr.findAsking]
    simp only [Sem.run_bind, hk, heq, Result.andThen_ok]
    by_cases hx : x = p.1
    · simp [hx, findIn, hv]
    · simp [hx, findIn]
      exact findAsking_ok heq x w es l (i + 1) h2
/-- a struct of two numbers as a key -/
theorem key2 {P : Program} {k i : TypeId} {f g : Field} (hk : P.underlying k = some (.struct #[f, g])) (hf : f.type = i) (hg : g.type = i) (hi : P.underlying i = some (.int .i64)) (hfo : f.offset = 0) (hgo : g.offset = 1)
    (hfn : f.name ≠ "_") (hgn : g.name ≠ "_") (hst : P.stoodInHeld k = false) (hagg : ∀ (cs : Array Value) (o : Nat) (v : Value) (w : World), cs[o]? = some v → (part i cs o).run P w = .ok v w) : KeyOf P k enc2 := by
  have hfs : P.fieldsOf k = #[f, g] := by unfold Program.fieldsOf; rw [hk]
  have heq : ∀ (x y : Int × Int) (w : World), (Op.equal k (enc2 x) (enc2 y)).run P w = .ok (decide (x = y)) w := by
    rintro ⟨a, b⟩ ⟨c, d⟩ w
    rw [Op.equal, show Op.maxDepth = 9999 + 1 from rfl]
    unfold enc2
    rw [run_equalIn_struct w 9999 k _ _ (by rw [hfs]; exact hk) hst, hfs]
    have q0 : ∀ (x y : Int) w, (part i #[.int .i64 x, .int .i64 y] 0).run P w = .ok (.int .i64 x) w := fun x y w => hagg _ _ _ _ rfl
    have q1 : ∀ (x y : Int) w, (part i #[.int .i64 x, .int .i64 y] 1).run P w = .ok (.int .i64 y) w := fun x y w => hagg _ _ _ _ rfl
    have h1 : ∀ (x y : Int), (Op.equalIn 9999 i (.int .i64 x) (.int .i64 y)).run P w = .ok (x == y) w := fun x y => run_equalIn_int w 9998 i .i64 .i64 x y hi
    simp only [Op.eqFields, if_pos hfn, if_pos hgn, Sem.run_bind, hf, hg, hfo, hgo, q0, q1, Result.andThen_ok]
    simp [h1]
    by_cases h2 : a = c
    · simp [h2, h1]
      by_cases h3 : b = d
      · simp [h3, q0, q1, h1]
      · simp [h3, q0, q1, h1]
    · simp [h2]
  refine ⟨fun b x w => ?_, fun x es l w hs => ?_, fun x => ?_⟩
  · rw [show (10000 : Nat) = 9998 + 1 + 1 from rfl, Instr.checkKey]
    unfold enc2
    have hc : ∀ (z : Int) w, (Instr.checkKey b (9998 + 1) i (.int .i64 z)).run P w = .ok () w := by
      intro z w
      rw [Instr.checkKey]
      simp only [Sem.run_bind, run_underlying hi, Result.andThen_ok]
      rfl
    simp only [Sem.run_bind, run_underlying hk, Result.andThen_ok]
    have q0 : ∀ (x y : Int) w, (part i #[.int .i64 x, .int .i64 y] 0).run P w = .ok (.int .i64 x) w := fun x y w => hagg _ _ _ _ rfl
    have q1 : ∀ (x y : Int) w, (part i #[.int .i64 x, .int .i64 y] 1).run P w = .ok (.int .i64 y) w := fun x y w => hagg _ _ _ _ rfl
    simp [hfn, hgn, hf, hg, hfo, hgo, q0, q1, hc]
  · unfold Instr.findKey
    simp only [Sem.run_bind, run_underlying hk, Result.andThen_ok]
    cases es with
    | nil =>
      cases l with
      | nil => rfl
      | cons p l => simp at hs
    | cons e es =>
      have : Instr.findNow (.struct #[f, g]) (enc2 x) (e :: es) 0 = none := by
        unfold Instr.findNow Instr.sameNow enc2; rfl
      rw [this]
      exact findAsking_ok heq x w _ l 0 hs
  · simp [enc2, Instr.sameBits]
end Go.Proofs.Ytchmlhceidociaa
