/- A set's numbers, in order: slices.Sorted over maps.Keys. -/
import Derived.Test.YtjmidomcgaijjaaSets
import Derived.Test.YtjmidomcgaijjaaShelf
namespace Go.Proofs.Ytjmidomcgaijjaa
set_option linter.unusedVariables false
open Go.RowKit Go.Maps Go.Sort Go.Shelf

theorem insert_perm {H : Type} (x : Lit × DataW H) : ∀ l : List (Lit × DataW H), (DataW.insert x l).Perm (x :: l)
  | [] => List.Perm.refl _
  | y :: r => by
    unfold DataW.insert
    split
    · exact List.Perm.refl _
    · exact ((insert_perm x r).cons y).trans (List.Perm.swap x y r)
theorem sorted_perm {H : Type} : ∀ l : List (Lit × DataW H), (l.foldr DataW.insert []).Perm l
  | [] => List.Perm.refl _
  | x :: l => (insert_perm x _).trans ((sorted_perm l).cons x)

def i64 (x : Int) : Prop := -9223372036854775808 ≤ x ∧ x ≤ 9223372036854775807
theorem i64.wf {x : Int} (h : i64 x) : (Lit.int .i64 x).wf = true := by
  obtain ⟨h1, h2⟩ := h
  show (decide ((-9223372036854775808 : Int) ≤ x) && decide (x ≤ (9223372036854775807 : Int))) = true
  simp only [Bool.and_eq_true, decide_eq_true_eq]
  exact ⟨h1, h2⟩

theorem SetAt.owns {w : World} {m : Nat} {xs : List Int} (h : SetAt w m xs) (hi : ∀ x ∈ xs, i64 x) (hn : xs.length ≤ 1000000) :
    ∃ D : DataW Unit, w.ownsMap Try.prog 3 (plainElem Try.prog 3) m xs.length D ∧ (intKeys D).Perm xs ∧ Maps.size D = xs.length := by
  obtain ⟨es, clock, hm, hs⟩ := h
  have hlen : es.toList.length = xs.length := by
    have := hs.keys.length_eq
    simpa using this
  have hrd : ∀ x ∈ es.toList, ∃ k, i64 k ∧ x.key = .int .i64 k ∧ WideElems.rd (H := Unit) Try.prog 3 (plainElem Try.prog 3) x = some (.int .i64 k, .lit (.int .i64 1)) := by
    intro x hx
    have hk : x.key ∈ xs.map (Value.int .i64) := hs.keys.mem_iff.1 (List.mem_map_of_mem (f := (·.key)) hx)
    obtain ⟨k, hk1, hk2⟩ := List.mem_map.1 hk
    have hv := hs.vals x hx
    refine ⟨k, hi k hk1, hk2.symm, ?_⟩
    obtain ⟨key, val, born⟩ := x
    simp only at hk2 hv
    subst hk2 hv
    exact WideElems.rd_mk (Maps.keyOf_int_mk Try.underlying3 (hi k hk1).wf) (plainElem_int Try.underlying3 (by decide))
  refine ⟨_, ⟨es, clock, hm, ⟨?_, ?_, ?_⟩, ?_, rfl⟩, ?_, ?_⟩
  · have : es.size = xs.length := by simpa using hlen
    unfold maxLen; omega
  · refine ⟨hs.below, ?_, ?_⟩
    · exact hs.stamps.imp (fun h => Nat.ne_of_lt h)
    · refine hs.keys.symm.nodup ?_
      refine List.Pairwise.map _ (fun a b (h : a ≠ b) => ?_) (hs.rising.imp (fun {a b} h => Int.ne_of_lt h))
      intro e; injection e with _ e; exact h e
  · intro x hx
    obtain ⟨k, _, _, hr⟩ := hrd x hx
    exact ⟨_, hr⟩
  · have : es.size = xs.length := by simpa using hlen
    omega
  · show (List.map (fun p : Lit × DataW Unit => Go.intOf p.1) _).Perm xs
    refine ((sorted_perm _).map _).trans ?_
    rw [List.map_map]
    have e : (es.toList.map (·.key)) = (es.toList.map ((fun p : Lit × DataW Unit => Go.intOf p.1) ∘ WideElems.rg Try.prog 3 (plainElem Try.prog 3))).map (Value.int .i64) := by
      rw [List.map_map]
      refine List.map_congr_left fun x hx => ?_
      obtain ⟨k, _, hk, hr⟩ := hrd x hx
      simp [WideElems.rg_of hr, hk, Go.intOf]
    have hp := hs.keys
    rw [e] at hp
    have := hp.map (fun v => match v with | .int _ n => n | _ => 0)
    rw [List.map_map, List.map_map] at this
    simpa [Function.comp_def] using this
  · simp [Maps.size, length_sorted, hlen]

theorem rising_sorted {xs ss : List Int} (h : Rising xs) (hp : ss.Perm xs) : ss.mergeSort (fun x y => decide (x ≤ y)) = xs := by
  have h1 : ss.mergeSort leI = xs.mergeSort leI := mergeSort_of_perm_i hp
  have h2 : xs.mergeSort leI = xs := List.mergeSort_of_pairwise (h.imp (fun {a b} h => by simp [leI]; omega))
  exact h1.trans h2

/-- slices.Sort's two contracts at this dump, at the fence that asks nothing. -/
theorem sortsI (m : Nat) : AnyZI.SortsIn Try.prog Try.sortedI_ren Fence.wide m :=
  ⟨fun blk off cap ss W hH hblk hsz => callsIn_wide.2 (Try.slices_Sort_int blk off cap ss W hH hblk hsz), fun p cap W => callsIn_wide.2 (Try.slices_Sort_int_none p cap W)⟩

set_option maxRecDepth 100000 in
set_option maxHeartbeats 1000000 in
/-- r.rising(): the numbers of the set, in order, in a row of their own. -/
theorem rising_any (m : Nat) (xs : List Int) (w : World) (hs : SetAt w m xs) (hi : ∀ x ∈ xs, i64 x) (hn : xs.length ≤ 1000000) :
    Calls Try.prog 41 #[.map (some m)] w fun e w' => ∃ v, e = .returned v ∧ w'.ownsRow w.heap.size 3 1 v xs.length (xs.map (Value.int .i64)) ∧ Below w.heap.size w w' := by
  obtain ⟨D, hown, hp, hsz⟩ := hs.owns hi hn
  have hrise := hs.rising
  refine (callsIn_wide (n := 6)).1 ?_
  have hfK : Fence.wide.fn 62 := trivial
  have hfS : Fence.wide.fn 61 := trivial
  have CK : CallsIn Fence.wide 5 Try.prog 62 #[.map (some m)] w fun e w' => e = .returned (.func (.func 69) #[] #[.pointer (some ⟨w.heap.size, 0, none⟩)]) ∧ w' = w.alloc (.cells #[.map (some m)] 81) :=
    AnyZI.keys_in Try.keysI Fence.wide 5 trivial rfl (some m) w
  have hbl := hown.lt
  have hseq : SeqGives Fence.wide 2 Try.prog 69 #[.pointer (some ⟨w.heap.size, 0, none⟩)] encZ (fun ss => ss.Perm (intKeys D)) (Maps.size D) (w.alloc (.cells #[.map (some m)] 81)) :=
    AnyZI.keys_gives (ρ := Try.keysI_ren) { Try.keysI with } Fence.wide _ trivial rfl (by omega) w.heap.size m xs.length D _ (by simp) (by simp) (by
      obtain ⟨es, clock, hb, Ft, hs, hD⟩ := hown
      exact ⟨es, clock, (Below.heap_alloc _ _ m hbl).trans hb, Ft, hs, hD⟩)
  have CS := AnyZI.sorted_in Try.sortedI Fence.wide 5 trivial trivial trivial trivial rfl (by omega) (sortsI _) (enters_of Try.func68 (by kernel_rfl) rfl) 69 #[.pointer (some ⟨w.heap.size, 0, none⟩)] trivial (enters_of Try.func69 (by kernel_rfl) rfl) _ _ (by rw [hsz]; unfold maxLen; omega) (by rw [hsz]; omega) _ hseq
  have HK := Lib.hid CK
  have HS := Lib.hid CS
  clear CK CS hseq hown hs
  refine callsIn_of_wp Try.func41 rfl trivial ?_ rfl
  simp only [Try.ntmps41, List.size_toArray, List.length_cons, List.length_nil, Nat.reduceAdd, Nat.reduceSub, Array.replicate_succ, Array.replicate_zero, List.push_toArray, List.append_toArray, List.nil_append, List.cons_append]
  gi_wp2_with (first
    | (gi_at_call 62; refine HK.out.mono ?_; rintro e w1 ⟨rfl, rfl⟩)
    | (gi_at_call 61; refine HS.out.mono ?_; rintro e w2 ⟨v, ss, rfl, hp2, hrow, hnil, hb⟩))
  go_ret
  have hss : ss.Perm xs := hp2.trans hp
  have hl := hss.length_eq
  rw [rising_sorted hrise hss, hl] at hrow
  refine ⟨v, rfl, ?_, ((Below.refl _ w).alloc (Nat.le_refl _) _).trans (hb.mono (by simp))⟩
  obtain ⟨h1, h2⟩ := hrow
  refine ⟨h1, ?_⟩
  rcases h2 with h2 | ⟨g, cap, cur, e, hg, r⟩
  · exact .inl h2
  · exact .inr ⟨g, cap, cur, e, by simp at hg; omega, r⟩
end Go.Proofs.Ytjmidomcgaijjaa
