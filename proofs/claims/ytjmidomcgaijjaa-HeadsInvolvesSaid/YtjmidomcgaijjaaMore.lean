/- The stack's other functions: used, tainted, free, involved, what pairs stand. -/
import Derived.Test.YtjmidomcgaijjaaClone
import Derived.Test.YtjmidomcgaijjaaRising
namespace Go.Proofs.Ytjmidomcgaijjaa
set_option linter.unusedVariables false
open Go.RowKit

theorem calls_flip {P : Program} {f : FuncId} {args : Array Value} {w : World} {v : Value} (h : Calls P f args w fun e w' => e = .returned v ∧ w = w') : Calls P f args w fun e w' => e = .returned v ∧ w' = w :=
  h.mono fun _ _ ⟨a, b⟩ => ⟨a, b.symm⟩

set_option maxRecDepth 100000 in
set_option maxHeartbeats 400000 in
theorem new_any (w : World) :
    Calls Try.prog 9 #[] w fun e w' => e = .returned (.pointer (some ⟨w.heap.size, 0, none⟩)) ∧ StkC w' w.heap.size (.slice none 0 0) [] ∧ Below w.heap.size w w' ∧ w'.heap.size = w.heap.size + 1 := by
  go_enter Try.func9, Try.ntmps9
  go_wp2
  go_ret
  refine ⟨rfl, ⟨?_, World.ownsRow_nil _ _ _ _, by simp, by simp [mapsOf]⟩, (ext_refl w).alloc (Nat.le_refl _) _, by simp⟩
  exact Blk.new w _ _

set_option maxRecDepth 100000 in
set_option maxHeartbeats 800000 in
theorem use_low (cs : List FrC) (v lv : Value) (pl : Int) (p : Nat) (w : World) (hs : StkC w p v cs) (hlow : lowOf (frs cs) pl = true) :
    Calls Try.prog 25 #[.pointer (some ⟨p, 0, none⟩), .int .i64 pl, lv] w fun e w' => e = .returned (.int .i64 2) ∧ w = w' := by
  have HI := Lib.hid (is_any p w hs.c0)
  have HL := low_any cs v pl p w hs
  rw [hlow] at HL
  have HL := Lib.hid HL
  clear hs hlow
  go_enter Try.func25, Try.ntmps25
  go_wp2_with (first
    | (go_at_call 39; refine HI.out.mono ?_; rintro e w1 ⟨rfl, rfl⟩)
    | (go_at_call 46; refine HL.out.mono ?_; rintro e w2 ⟨rfl, rfl⟩))
  go_ret
  exact ⟨rfl, rfl⟩
set_option maxRecDepth 100000 in
set_option maxHeartbeats 800000 in
theorem use_ok (cs : List FrC) (v lv : Value) (l : List Int) (pl : Int) (p : Nat) (w : World) (hs : StkC w p v cs) (hl : Ints w lv l) (hlow : lowOf (frs cs) pl = false) :
    Calls Try.prog 25 #[.pointer (some ⟨p, 0, none⟩), .int .i64 pl, lv] w fun e w' => e = .returned (.int .i64 0) ∧ StkC w' p v (cs.map (FrC.up (touchF pl l))) ∧ Upd (· ∈ mapsOf cs) w w' := by
  have HI := Lib.hid (is_any p w hs.c0)
  have HL := low_any cs v pl p w hs
  rw [hlow] at HL
  have HL := Lib.hid HL
  have HT := Lib.hid (touch_any cs v lv l pl p w hs hl)
  clear hs hlow hl
  go_enter Try.func25, Try.ntmps25
  go_wp2_with (first
    | (go_at_call 39; refine HI.out.mono ?_; rintro e w1 ⟨rfl, rfl⟩)
    | (go_at_call 46; refine HL.out.mono ?_; rintro e w2 ⟨rfl, rfl⟩)
    | (go_at_call 47; refine HT.out.mono ?_; rintro e w3 ⟨rfl, hs3, hu3, hz3⟩))
  go_ret
  exact ⟨rfl, hs3, hu3⟩

def taintedOf (l : List Fr) : Bool := match l.getLast? with | some f => f.tainted | none => false
set_option maxRecDepth 100000 in
set_option maxHeartbeats 800000 in
theorem tainted_any (cs : List FrC) (v : Value) (p : Nat) (w : World) (hs : StkC w p v cs) :
    Calls Try.prog 13 #[.pointer (some ⟨p, 0, none⟩)] w fun e w' => e = .returned (.bool (taintedOf (frs cs))) ∧ ∃ n, w' = w.drewN n := by
  have h1 := hs.c1
  have h0 := hs.c0
  have hp := hs.lt
  have HI := Lib.hid (fun W (h : W.cell? ⟨p, 0, none⟩ = some (.bool true)) => calls_flip (is_any p W h))
  obtain ⟨A, c, rfl, hc, hm, _, hcells⟩ := hs.reads.frame
  unfold maxLen at hm
  rcases List.eq_nil_or_concat cs with rfl | ⟨cs', x, rfl⟩
  · clear hcells hs
    go_enter Try.func13, Try.ntmps13
    go_wp2
    go_quiet ((go_at_call 39; exact Calls.quiet_of_same (HI.out _ (by simpa using h0))))
    go_wp2
    go_ret
    exact ⟨rfl, _, rfl⟩
  · obtain ⟨b, o, rfl, hbl, hcell⟩ := hcells (by simp)
    have g := hcell cs'.length (by simp)
    have hx : (cs' ++ [x])[cs'.length]'(by simp) = x := by simp
    simp only [List.concat_eq_append] at g h1 hc hs ⊢
    rw [hx] at g
    obtain ⟨g0, g1, g2, g3, g4⟩ := g
    have hl : (cs' ++ [x]).length = cs'.length + 1 := by simp
    rw [hl] at h1 hc
    have hres : taintedOf (frs (cs' ++ [x])) = x.f.tainted := by simp [taintedOf, frs]
    have HR := Lib.hid hres
    have hdec : decide (0 < cs'.length + 1) = true := by simp
    have hpos : (0 : Int) < ((cs'.length + 1 : Nat) : Int) := by omega
    clear hcells hs hx hl hres hcell
    go_enter Try.func13, Try.ntmps13
    go_wp2
    go_quiet ((go_at_call 39; exact Calls.quiet_of_same (HI.out _ (by simpa using h0))))
    go_wp2
    go_ret
    exact ⟨ret_bool HR.out.symm, _, rfl⟩

/-- does a rule stand at a place? -/
def standsAt (l : List Fr) (r pl : Int) : Bool := l.any (isPair r pl)
theorem posOf_ge {α : Type} (q : α → Bool) (l : List α) : decide (0 ≤ posOf q l) = l.any q := by
  unfold posOf
  cases h : l.findIdx? q with
  | none =>
    have : l.any q = false := by
      rw [List.any_eq_false]
      intro x hx
      have := (List.findIdx?_eq_none_iff.1 h) x hx
      simp [this]
    rw [this]; rfl
  | some i =>
    have : l.any q = true := by
      obtain ⟨hi, h1, _⟩ := List.findIdx?_eq_some_iff_getElem.1 h
      exact List.any_eq_true.2 ⟨_, List.getElem_mem hi, h1⟩
    rw [this]
    simp

set_option maxRecDepth 100000 in
set_option maxHeartbeats 800000 in
theorem free1_any (cs : List FrC) (v : Value) (r pl : Int) (p bs bp : Nat) (w : World) (hs : StkC w p v cs) (h1 : w.cell? ⟨bs, 0, none⟩ = some (.pointer (some ⟨p, 0, none⟩))) (h2 : w.cell? ⟨bp, 0, none⟩ = some (.int .i64 pl)) :
    Calls Try.prog 44 #[.int .i64 r, .pointer (some ⟨bs, 0, none⟩), .pointer (some ⟨bp, 0, none⟩)] w fun e w' => e = .returned (.bool (standsAt (frs cs) r pl)) ∧ Below w.heap.size w w' := by
  have HA := Lib.hid (at_any cs v r pl p w hs)
  have HR := Lib.hid (posOf_ge (isPair r pl) (frs cs))
  generalize posOf (isPair r pl) (frs cs) = q at *
  clear hs
  go_enter Try.func44, Try.ntmps44
  go_wp2_with (first | (go_at_call 40; refine HA.out.mono ?_; rintro e w1 ⟨rfl, hb1⟩))
  go_ret
  exact ⟨ret_bool HR.out, hb1⟩

set_option maxRecDepth 100000 in
set_option maxHeartbeats 800000 in
theorem indexInt_any (cs : List FrC) (v lv : Value) (l : List Int) (pl : Int) (p bs bp : Nat) (w : World) (hs : StkC w p v cs) (hl : Ints w lv l) (h1 : w.cell? ⟨bs, 0, none⟩ = some (.pointer (some ⟨p, 0, none⟩))) (h2 : w.cell? ⟨bp, 0, none⟩ = some (.int .i64 pl)) :
    Calls Try.prog 63 #[lv, .func (.func 44) #[] #[.pointer (some ⟨bs, 0, none⟩), .pointer (some ⟨bp, 0, none⟩)]] w fun e w' => e = .returned (.int .i64 (posOf (fun r => standsAt (frs cs) r pl) l)) ∧ Below w.heap.size w w' := by
  obtain ⟨A, c, rfl, hc, hm, _, hcells⟩ := hl.form
  unfold maxLen at hm
  have hbs : bs < w.heap.size := World.block_lt_of_cell? w _ h1
  have hbp : bp < w.heap.size := World.block_lt_of_cell? w _ h2
  have HS := Lib.hid hs
  clear hs hl
  go_enter Try.func63, Try.ntmps63
  go_wp2
  go_loopw [8] (fun i wr => ∃ k : Nat, k ≤ l.length ∧ i = .int .i64 k ∧ Below w.heap.size w wr ∧ ∀ j (hj : j < k) (hl : j < l.length), standsAt (frs cs) l[j] pl = false) (fun i _ => l.length - (intOf i).toNat)
  case atStart => exact ⟨0, Nat.zero_le _, rfl, Below.refl _ _, fun _ h => by omega⟩
  case round =>
    obtain ⟨k, hk, rfl, hB, hno⟩ := hrel
    by_cases hlt : k < l.length
    · obtain ⟨b, o, rfl, hcell⟩ := hcells (by omega)
      have hck := hcell k hlt
      have hbl : b < w.heap.size := World.block_lt_of_cell? w _ hck
      have hck' : wr.cell? ⟨b, o + k, none⟩ = some (.int .i64 (l.getD k 0)) := (hB.cell (p := ⟨b, o + k, none⟩) hbl).trans hck
      have hget : l.getD k 0 = l[k] := by simp [List.getD, hlt]
      rw [hget] at hck'
      have C := free1_any cs v l[k] pl p bs bp wr (HS.out.ext hB) ((hB.cell (p := ⟨bs, 0, none⟩) hbs).trans h1) ((hB.cell (p := ⟨bp, 0, none⟩) hbp).trans h2)
      have hz : w.heap.size ≤ wr.heap.size := hB.size
      generalize hq : standsAt (frs cs) l[k] pl = q at *
      have HQ := Lib.hid hq
      have HN := Lib.hid hno
      have HC := Lib.hid C
      clear hq hno C hcell hcells hck hget h1 h2
      generalize hek : l[k] = ek at *
      have HE := Lib.hid hek
      clear hek
      cases q
      · go_wp2_with (go_at_call 44; refine HC.out.mono ?_; rintro e w1 ⟨rfl, hB1⟩)
        go_roundw
        case rel =>
          refine ⟨k + 1, by omega, by go_num, hB.trans (hB1.mono hz), fun j hj hl => ?_⟩
          by_cases hjk : j = k
          · subst hjk; rw [HE.out]; exact HQ.out
          · exact HN.out j (by omega) hl
        case measure => simp [intOf]; omega
      · go_wp2_with (go_at_call 44; refine HC.out.mono ?_; rintro e w1 ⟨rfl, hB1⟩)
        go_ret
        exact ⟨ret_int (posOf_hit (k := k) hlt (by rw [HE.out]; exact HQ.out) (fun j hj => HN.out j hj (by omega))).symm, hB.trans (hB1.mono hz)⟩
    · obtain rfl : k = l.length := by omega
      have HN := Lib.hid hno
      clear hno
      go_wp2
      go_ret
      exact ⟨ret_int (posOf_none (fun j hj => HN.out j hj hj)).symm, hB⟩

set_option maxRecDepth 100000 in
set_option maxHeartbeats 800000 in
theorem containsInt_any (cs : List FrC) (v lv : Value) (l : List Int) (pl : Int) (p bs bp : Nat) (w : World) (hs : StkC w p v cs) (hl : Ints w lv l) (h1 : w.cell? ⟨bs, 0, none⟩ = some (.pointer (some ⟨p, 0, none⟩))) (h2 : w.cell? ⟨bp, 0, none⟩ = some (.int .i64 pl)) :
    Calls Try.prog 43 #[lv, .func (.func 44) #[] #[.pointer (some ⟨bs, 0, none⟩), .pointer (some ⟨bp, 0, none⟩)]] w fun e w' => e = .returned (.bool (l.any fun r => standsAt (frs cs) r pl)) ∧ Below w.heap.size w w' := by
  have HA := Lib.hid (indexInt_any cs v lv l pl p bs bp w hs hl h1 h2)
  have HR := Lib.hid (posOf_ge (fun r => standsAt (frs cs) r pl) l)
  generalize posOf (fun r => standsAt (frs cs) r pl) l = q at *
  clear hs hl h1 h2
  go_enter Try.func43, Try.ntmps43
  go_wp2_with (first | (go_at_call 63; refine HA.out.mono ?_; rintro e w1 ⟨rfl, hb1⟩))
  go_ret
  exact ⟨ret_bool HR.out, hb1⟩

set_option maxRecDepth 100000 in
set_option maxHeartbeats 800000 in
theorem free_any (cs : List FrC) (v lv : Value) (l : List Int) (pl : Int) (p : Nat) (w : World) (hs : StkC w p v cs) (hl : Ints w lv l) :
    Calls Try.prog 17 #[.pointer (some ⟨p, 0, none⟩), .int .i64 pl, lv] w fun e w' => e = .returned (.bool (!(l.any fun r => standsAt (frs cs) r pl))) ∧ Below w.heap.size w w' := by
  have hB : Below w.heap.size w ((w.alloc (.cells #[.pointer (some ⟨p, 0, none⟩)] 25)).alloc (.cells #[.int .i64 pl] 3)) := ((ext_refl w).alloc (Nat.le_refl _) _).alloc (by simp) _
  have HB := Lib.hid hB
  have HI := Lib.hid (is_any p _ (hs.ext hB).c0)
  have b1 : Blk ((w.alloc (.cells #[.pointer (some ⟨p, 0, none⟩)] 25)).alloc (.cells #[.int .i64 pl] 3)) w.heap.size 25 #[.pointer (some ⟨p, 0, none⟩)] := (Blk.new w _ _).alloc _
  have b2 : Blk ((w.alloc (.cells #[.pointer (some ⟨p, 0, none⟩)] 25)).alloc (.cells #[.int .i64 pl] 3)) (w.heap.size + 1) 3 #[.int .i64 pl] := by
    have := Blk.new (w.alloc (.cells #[.pointer (some ⟨p, 0, none⟩)] 25)) 3 #[.int .i64 pl]
    simpa using this
  have HC := Lib.hid (containsInt_any cs v lv l pl p w.heap.size (w.heap.size + 1) _ (hs.ext hB) (hl.of_cells fun q u hq => (hB.cell (World.block_lt_of_cell? w q hq)).trans hq) (by rw [b1.cell]; rfl) (by rw [b2.cell]; rfl))
  generalize (l.any fun r => standsAt (frs cs) r pl) = q at *
  clear hs hl hB b1 b2
  go_enter Try.func17, Try.ntmps17
  go_wp2_with (first
    | (go_at_call 39; refine HI.out.mono ?_; rintro e w1 ⟨rfl, rfl⟩)
    | (go_at_call 43; refine HC.out.mono ?_; rintro e w1 ⟨rfl, hb1⟩))
  go_ret
  exact ⟨rfl, ext_trans HB.out hb1⟩

def involvedOf (l : List Fr) (r pl : Int) : List Int := match l.find? (isPair r pl) with | some f => f.involved | none => []
set_option maxRecDepth 100000 in
set_option maxHeartbeats 800000 in
theorem involved_none (cs : List FrC) (v : Value) (r pl : Int) (p : Nat) (w : World) (hs : StkC w p v cs) (hpos : posOf (isPair r pl) (frs cs) < 0) :
    Calls Try.prog 11 #[.pointer (some ⟨p, 0, none⟩), .int .i64 r, .int .i64 pl] w fun e w' => e = .returned (.slice none 0 0) ∧ Below w.heap.size w w' := by
  have HI := Lib.hid (is_any p w hs.c0)
  have HA := Lib.hid (at_any cs v r pl p w hs)
  generalize posOf (isPair r pl) (frs cs) = q at *
  clear hs
  go_enter Try.func11, Try.ntmps11
  go_wp2_with (first
    | (go_at_call 39; refine HI.out.mono ?_; rintro e w1 ⟨rfl, rfl⟩)
    | (go_at_call 40; refine HA.out.mono ?_; rintro e w1 ⟨rfl, hb1⟩))
  go_ret
  exact ⟨rfl, hb1⟩
set_option maxRecDepth 100000 in
set_option maxHeartbeats 800000 in
theorem involved_some (cs : List FrC) (v : Value) (r pl : Int) (p : Nat) (w : World) (hs : StkC w p v cs) (k : Nat) (hk : k < cs.length) (hpos : posOf (isPair r pl) (frs cs) = (k : Int)) (hi : ∀ x ∈ cs[k].f.involved, i64 x) (hn : cs[k].f.involved.length ≤ 1000000) :
    Calls Try.prog 11 #[.pointer (some ⟨p, 0, none⟩), .int .i64 r, .int .i64 pl] w fun e w' => ∃ u, e = .returned u ∧ w'.ownsRow w.heap.size 3 1 u cs[k].f.involved.length (cs[k].f.involved.map (Value.int .i64)) ∧ Below w.heap.size w w' := by
  have HI := Lib.hid (is_any p w hs.c0)
  have A := at_any cs v r pl p w hs
  rw [hpos] at A
  have HA := Lib.hid A
  obtain ⟨g, cap, cur, rfl, hg, hc, hm, _, _, hgl, hgp, hgm⟩ := hs.head (by omega)
  unfold maxLen at hm
  have HS := Lib.hid hs
  have HR := Lib.hid (fun W (hb : Below w.heap.size w W) => rising_any cs[k].mv cs[k].f.involved W ((hs.ext hb).sets _ (List.getElem_mem hk)).2 hi hn)
  clear A hpos hs hg hi
  go_enter Try.func11, Try.ntmps11
  go_wp2_with (first
    | (go_at_call 39; refine HI.out.mono ?_; rintro e w1 ⟨rfl, rfl⟩)
    | (go_at_call 40; refine HA.out.mono ?_; rintro e w1 ⟨rfl, hb1⟩; have hc1 := (HS.out.ext hb1).c1; have hp1 := (HS.out.ext hb1).lt; obtain ⟨g0, g1, g2, g3, g4⟩ := (HS.out.ext hb1).cells0 rfl hk)
    | (go_at_call 41; refine (HR.out _ hb1).mono ?_; rintro e w2 ⟨u, rfl, hrow, hb2⟩))
  go_ret
  refine ⟨_, rfl, ?_, ext_trans hb1 hb2⟩
  obtain ⟨h1, h2⟩ := hrow
  refine ⟨h1, ?_⟩
  rcases h2 with h2 | ⟨g, cap, cur, e, hg, r⟩
  · exact .inl h2
  · exact .inr ⟨g, cap, cur, e, Nat.le_trans hb1.size hg, r⟩
end Go.Proofs.Ytjmidomcgaijjaa
