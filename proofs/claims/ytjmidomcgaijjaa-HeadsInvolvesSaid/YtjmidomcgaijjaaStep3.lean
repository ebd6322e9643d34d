/- What was done: the steps of reading and of using. -/
import Derived.Test.YtjmidomcgaijjaaStep
namespace Go.Proofs.Ytjmidomcgaijjaa
set_option linter.unusedVariables false
open Go.RowKit

set_option maxRecDepth 100000 in
set_option maxHeartbeats 1600000 in
theorem hread_none (q p : Nat) (S : Nat → Prop) (vl vr vt : Value) (H : Hist) (l l' : List Fr) (k what rule P : Int) (b : Bool) (w : World) (h : HisC w q p vl vr vt H) (hs : HS w p S l)
    (hP : P = nowOf H.l) (hpos : posOf (isSt rule P) H.l < 0) (hea : readB l rule P = (5, l')) :
    Calls Try.prog 37 #[.pointer (some ⟨q, 0, none⟩), .int .i64 k, .agg #[.int .i64 what, .int .i64 rule, .bool b]] w fun e w' =>
      ∃ T, e = .returned (.bool true) ∧ HisC w' q p vl vr vt H ∧ HS w' p T l' ∧ Step S T w w' := by
  have HC := Lib.hid (fun W (hb : Below w.heap.size w W) => And.intro (now_any q p vl vr vt H W (h.ext hb)) (where_any q p vl vr vt H rule P W (h.ext hb)))
  have HE := Lib.hid (fun W (hb : Below w.heap.size w W) => call_to (Q := fun T' W' => Step S T' W W') hea (read_uni S l rule P p W (hs.ext hb)))
  have HK := Lib.hid (And.intro h hs)
  obtain ⟨Al, cl, rfl, -⟩ := h.lform
  have hqw := h.blk.lt
  have h0 := h.c0
  rw [← hP] at HC
  generalize posOf (isSt rule P) H.l = pos at *
  have hpd : decide (0 ≤ pos) = false := by simpa using hpos
  have HPOS := Lib.hid hpos
  clear hpos
  clear h hs hea hP
  have hB0 : Below w.heap.size w (w.alloc (.cells #[.int .i64 what, .int .i64 rule, .bool b] 35)) := (ext_refl w).alloc (Nat.le_refl _) _
  have hX0 := Lib.hid (Blk.new w 35 #[.int .i64 what, .int .i64 rule, .bool b])
  have HB0 := Lib.hid hB0
  clear hB0
  go_enter Try.func37, Try.ntmps37
  go_wp2_with (first
    | (go_at_call 58; refine ((HC.out _ HB0.out).1).mono ?_; rintro e w1 ⟨rfl, hd1⟩; have hX1 := Lib.hid (hX0.out.ext (drew_ext hd1)); have hB1 := Lib.hid (ext_trans HB0.out (drew_ext hd1)); have x1 : w1.cell? ⟨w.heap.size, 1, none⟩ = some (.int .i64 rule) := hX1.out.cell 1; have xl := hX1.out.lt; have hq1 : w1.cell? ⟨q, 0, none⟩ = some (.pointer (some ⟨p, 0, none⟩)) := (hB1.out.cell (p := ⟨q, 0, none⟩) hqw).trans h0; have hql : q < w1.heap.size := Nat.lt_of_lt_of_le hqw hB1.out.size; clear hX0 HB0 hd1 h0)
    | (go_at_call 16; refine ((HC.out _ hB1.out).2).mono ?_; rintro e w2 ⟨rfl, rfl⟩))
  go_region_held3 (fun w' => w'.cell? ⟨q, 0, none⟩ = some (.pointer (some ⟨p, 0, none⟩)) ∧ w'.cell? ⟨w.heap.size, 1, none⟩ = some (.int .i64 rule)) (go_keep)
    (first | (go_at_call 23; refine (HE.out _ ?_).mono ?_; exact hB1.out.drew; rintro e w2 ⟨T, rfl, hs2, st2⟩
              have ha := aft HK.out.1 HK.out.2 hB1.out.drew hX1.out.drew st2
              have hA := Lib.hid (And.intro ha hs2)
              have c0 := ha.1.c0
              have c1 := ha.1.c2
              have cf := ha.1.blk.frozen 2
              have cl2 := ha.1.blk.lt
              have x1 : w2.cell? ⟨w.heap.size, 1, none⟩ = some (.int .i64 rule) := ha.2.1.cell 1
              have xl2 := ha.2.1.lt
              clear ha hs2 st2))
  go_wp2
  go_ret
  exact ⟨_, rfl, hA.out.1.1, hA.out.2, hA.out.1.2.2⟩

set_option maxRecDepth 100000 in
set_option maxHeartbeats 1600000 in
theorem hread_some (q p : Nat) (S : Nat → Prop) (vl vr vt : Value) (H : Hist) (l l' : List Fr) (k what rule P : Int) (b : Bool) (w : World) (h : HisC w q p vl vr vt H) (hs : HS w p S l)
    (hn1 : H.reads.length ≤ 1000) (hn2 : H.touches.length ≤ 1000)
    (hP : P = nowOf H.l) (hpos : 0 ≤ posOf (isSt rule P) H.l) (hea : readB l rule P = (0, l')) :
    Calls Try.prog 37 #[.pointer (some ⟨q, 0, none⟩), .int .i64 k, .agg #[.int .i64 what, .int .i64 rule, .bool b]] w fun e w' =>
      ∃ T vr' vt', e = .returned (.bool true) ∧ HisC w' q p vl vr' vt' { H with reads := H.reads ++ [⟨k, posOf (isSt rule P) H.l⟩], touches := H.touches ++ [⟨k, rule, P⟩] } ∧ HS w' p T l' ∧ Step (fun k => S k ∨ HFoot q vl vr vt k) (fun k => T k ∨ HFoot q vl vr' vt' k) w w' := by
  obtain ⟨iS, hi, hz0, hz1, hz2⟩ := info_parts (P := Try.prog) (e := 37) (z := .agg #[.int .i64 0, .int .i64 0]) (size := 2) (bytes := 16) (by kernel_rfl)
  obtain ⟨iT, ti, tz0, tz1, tz2⟩ := info_parts (P := Try.prog) (e := 87) (z := .agg #[.int .i64 0, .int .i64 0, .int .i64 0]) (size := 3) (bytes := 24) (by kernel_rfl)
  have HC := Lib.hid (fun W (hb : Below w.heap.size w W) => And.intro (now_any q p vl vr vt H W (h.ext hb)) (where_any q p vl vr vt H rule P W (h.ext hb)))
  have HE := Lib.hid (fun W (hb : Below w.heap.size w W) => call_to (Q := fun T' W' => Step S T' W W') hea (read_uni S l rule P p W (hs.ext hb)))
  have HK := Lib.hid (And.intro h hs)
  obtain ⟨Al, cl, rfl, -⟩ := h.lform
  obtain ⟨Ar, cr, rfl, -⟩ := h.rform
  obtain ⟨At, ct, rfl, -⟩ := h.tform
  have hqw := h.blk.lt
  have h0 := h.c0
  rw [← hP] at HC
  generalize posOf (isSt rule P) H.l = pos at *
  have hpd : decide (0 ≤ pos) = true := by simpa using hpos
  have HPOS := Lib.hid hpos
  clear hpos
  clear h hs hea hP
  have hB0 : Below w.heap.size w (w.alloc (.cells #[.int .i64 what, .int .i64 rule, .bool b] 35)) := (ext_refl w).alloc (Nat.le_refl _) _
  have hX0 := Lib.hid (Blk.new w 35 #[.int .i64 what, .int .i64 rule, .bool b])
  have HB0 := Lib.hid hB0
  clear hB0
  go_enter Try.func37, Try.ntmps37
  go_wp2_with (first
    | (go_at_call 58; refine ((HC.out _ HB0.out).1).mono ?_; rintro e w1 ⟨rfl, hd1⟩; have hX1 := Lib.hid (hX0.out.ext (drew_ext hd1)); have hB1 := Lib.hid (ext_trans HB0.out (drew_ext hd1)); have x1 : w1.cell? ⟨w.heap.size, 1, none⟩ = some (.int .i64 rule) := hX1.out.cell 1; have xl := hX1.out.lt; have hq1 : w1.cell? ⟨q, 0, none⟩ = some (.pointer (some ⟨p, 0, none⟩)) := (hB1.out.cell (p := ⟨q, 0, none⟩) hqw).trans h0; have hql : q < w1.heap.size := Nat.lt_of_lt_of_le hqw hB1.out.size; clear hX0 HB0 hd1 h0)
    | (go_at_call 16; refine ((HC.out _ hB1.out).2).mono ?_; rintro e w2 ⟨rfl, rfl⟩))
  go_region_held3 (fun w' => w'.cell? ⟨q, 0, none⟩ = some (.pointer (some ⟨p, 0, none⟩)) ∧ w'.cell? ⟨w.heap.size, 1, none⟩ = some (.int .i64 rule)) (go_keep)
    (first | (go_at_call 23; refine (HE.out _ ?_).mono ?_; exact hB1.out.drew; rintro e w2 ⟨T, rfl, hs2, st2⟩
              have ha := aft HK.out.1 HK.out.2 hB1.out.drew hX1.out.drew st2
              have hA := Lib.hid (And.intro ha hs2)
              have c0 := ha.1.c0
              have c1 := ha.1.c2
              have cf := ha.1.blk.frozen 2
              have cl2 := ha.1.blk.lt
              have x1 : w2.cell? ⟨w.heap.size, 1, none⟩ = some (.int .i64 rule) := ha.2.1.cell 1
              have xl2 := ha.2.1.lt
              clear ha hs2 st2))
  have hrl := Lib.hid (show w2.ownsRow 0 37 2 (.slice Ar H.reads.length cr) H.reads.length ((H.reads.map Rd.row).flatMap fun r => r.map (Value.int .i64)) by simpa using hA.out.1.1.reads.1)
  have hW2 := Lib.hid ((ext_refl w2).alloc (Nat.le_refl _) (.cells #[.int .i64 k, .int .i64 pos] 37))
  go_wp2_with (at_builtin
               refine wpList_app rfl (.tmp 31) (.tmp 35) 28 rfl 37 iS _ 2 16 Try.underlying28 hi hz0 hz1 hz2 rfl (by decide) (.slice Ar H.reads.length cr) H.reads.length _ rfl (hrl.out.alloc _) _ 1 1 [.int .i64 k, .int .i64 pos] rfl rfl (by simp) (cells_newA _ _ _ _ (by simp)) (by simp [Value.oneCell']) (by unfold maxLen; omega) (by omega) ?_
               intro A2 c2 w5 hrow5 hu5 hv5 hz5
               have hq5 := (hA.out.1.1.ext hW2.out).q_r hu5
               have k1 : w5.cell? ⟨q, 2, none⟩ = some (.slice Ar H.reads.length cr) := hq5.cell 2
               have kf := hq5.frozen 2
               have kl := hq5.lt
               have HU := Lib.hid (And.intro hu5 (And.intro hv5 hrow5))
               clear hu5 hv5 hz5 hrow5 hq5)
  all_goals
    obtain ⟨hu5, hv5, hrow5⟩ := HU.out
    have hW := hW2.out
    obtain ⟨r1, r2, r3⟩ := (hA.out.1.1.ext hW).push_reads ⟨k, pos⟩ hrow5 hu5 hv5
    have hst : Step (fun k => S k ∨ HFoot q (.slice Al H.l.length cl) (.slice Ar H.reads.length cr) (.slice At H.touches.length ct) k) (fun k => T k ∨ HFoot q (.slice Al H.l.length cl) (.slice Ar H.reads.length cr) (.slice At H.touches.length ct) k) w w2 :=
      ⟨hA.out.1.2.2.upd.mono (fun k _ hk => .inl hk), fun k hk => by
        rcases hk with hk | hk
        · exact (hA.out.1.2.2.sub k hk).imp .inl id
        · exact .inl (.inr hk)⟩
    have ha2 := aft2 (hA.out.1.1.ext hW) (hA.out.2.ext hW) (hA.out.1.2.1.ext hW) (hst.trans (Step.ext hW)) r1 r2 r3
    generalize (w5.setCell ⟨q, 2, none⟩ (.slice A2 (H.reads.length + 1) c2)) = w6 at *
    have hA6 := Lib.hid (And.intro r1 ha2)
    clear hW2
    clear r1 r2 r3 hst hW ha2 hu5 hv5 hrow5 HU k1 kf kl c0 c1 cf cl2 x1 xl2
    have c3 := hA6.out.1.c3
    have cf := hA6.out.1.blk.frozen 3
    have cl2 := hA6.out.1.blk.lt
    have x1 : w6.cell? ⟨w.heap.size, 1, none⟩ = some (.int .i64 rule) := hA6.out.2.2.1.cell 1
    have xl2 := hA6.out.2.2.1.lt
    have hrt := Lib.hid (show w6.ownsRow 0 87 3 (.slice At H.touches.length ct) H.touches.length ((H.touches.map Tc.row).flatMap fun r => r.map (Value.int .i64)) by simpa using hA6.out.1.touches.1)
    have hW6 := Lib.hid (((ext_refl w6).alloc (Nat.le_refl _) (.cells #[.int .i64 k, .int .i64 rule, .int .i64 P] 87)).drew)
    go_wp2
    go_region_law (refine step_app rfl (.tmp 43) (.tmp 49) 29 rfl 87 iT _ 3 24 Try.underlying29 ti tz0 tz1 tz2 rfl (by decide) (.slice At H.touches.length ct) H.touches.length _ rfl ((hrt.out.alloc _).drew) _ 1 1 [.int .i64 k, .int .i64 rule, .int .i64 P] rfl rfl (by simp) (cells_newA _ _ _ _ (by simp)) (by simp [Value.oneCell']) (by unfold maxLen; omega) (by omega) ?_
                   intro A3 c3' w7 hrow7 hu7 hv7 hz7
                   have hq7 := (hA6.out.1.ext hW6.out).q_t hu7
                   have k1 : w7.cell? ⟨q, 3, none⟩ = some (.slice At H.touches.length ct) := hq7.cell 3
                   have kf := hq7.frozen 3
                   have kl := hq7.lt
                   have HU := Lib.hid (And.intro hu7 (And.intro hv7 hrow7))
                   clear hu7 hv7 hz7 hrow7 hq7)
  all_goals
    go_wp2
    go_ret
    obtain ⟨hu7, hv7, hrow7⟩ := HU.out
    have hW := hW6.out
    obtain ⟨r1, r2, r3⟩ := (hA6.out.1.ext hW).push_touches ⟨k, rule, P⟩ hrow7 hu7 hv7
    have ha7 := aft2 (hA6.out.1.ext hW) (hA6.out.2.1.ext hW) (hA6.out.2.2.1.ext hW) (hA6.out.2.2.2.trans (Step.ext hW)) r1 r2 r3
    exact ⟨_, _, _, rfl, r1, ha7.1, ha7.2.2⟩
end Go.Proofs.Ytjmidomcgaijjaa
