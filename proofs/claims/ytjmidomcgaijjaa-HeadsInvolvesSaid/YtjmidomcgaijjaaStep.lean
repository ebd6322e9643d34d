/- What was done: the steps. -/
import Derived.Test.YtjmidomcgaijjaaPut
namespace Go.Proofs.Ytjmidomcgaijjaa
set_option linter.unusedVariables false
open Go.RowKit

def enterH (H : Hist) (k r pl : Int) : Hist :=
  if 0 ≤ posOf (isSt r pl) H.l then H else { H with l := H.l ++ [⟨r, pl, k⟩], touches := H.touches ++ [⟨k, r, pl⟩] }

theorem drew_ext {w w' : World} (h : ∃ n, w' = w.drewN n) : Below w.heap.size w w' := by
  obtain ⟨n, rfl⟩ := h
  exact ⟨rfl, rfl, rfl, Nat.le_refl _, fun _ _ => rfl⟩

theorem HisC.q_l {w w1 : World} {q p : Nat} {vl vr vt : Value} {H : Hist} (h : HisC w q p vl vr vt H) (hu : Upd (fun k => vl.ownBlock = some k) w w1) : Blk w1 q 31 #[.pointer (some ⟨p, 0, none⟩), vl, vr, vt, .int .i64 0] :=
  h.blk.keep hu (fun e => by obtain ⟨cs, hb⟩ := own_blk h.l.1 e; exact Blk.ne_ h.blk hb (by decide) rfl)
theorem HisC.q_r {w w1 : World} {q p : Nat} {vl vr vt : Value} {H : Hist} (h : HisC w q p vl vr vt H) (hu : Upd (fun k => vr.ownBlock = some k) w w1) : Blk w1 q 31 #[.pointer (some ⟨p, 0, none⟩), vl, vr, vt, .int .i64 0] :=
  h.blk.keep hu (fun e => by obtain ⟨cs, hb⟩ := own_blk h.reads.1 e; exact Blk.ne_ h.blk hb (by decide) rfl)
theorem HisC.q_t {w w1 : World} {q p : Nat} {vl vr vt : Value} {H : Hist} (h : HisC w q p vl vr vt H) (hu : Upd (fun k => vt.ownBlock = some k) w w1) : Blk w1 q 31 #[.pointer (some ⟨p, 0, none⟩), vl, vr, vt, .int .i64 0] :=
  h.blk.keep hu (fun e => by obtain ⟨cs, hb⟩ := own_blk h.touches.1 e; exact Blk.ne_ h.blk hb (by decide) rfl)
/-- after a row has been made longer -/
theorem aft2 {w W w6 : World} {q p b : Nat} {S : Nat → Prop} {vl vr vt vl' vr' vt' : Value} {H H' : Hist} {l : List Fr} {xs : Array Value} {F : Nat → Prop} (hc : HisC W q p vl vr vt H) (hs : HS W p S l)
    (hX : Blk W b 35 xs) (hst : Step F (fun k => S k ∨ HFoot q vl vr vt k) w W) (hc' : HisC w6 q p vl' vr' vt' H') (hu : Upd (HFoot q vl vr vt) W w6) (hv : ∀ k, HFoot q vl' vr' vt' k → HFoot q vl vr vt k ∨ W.heap.size ≤ k) :
    HS w6 p S l ∧ Blk w6 b 35 xs ∧ Step F (fun k => S k ∨ HFoot q vl' vr' vt' k) w w6 := by
  refine ⟨hs.keep hu (fun k hk hf => hc.apart hs hf hk), hX.keep hu (fun hf => ?_), hst.trans ⟨hu.mono (fun k _ hk => .inr hk), fun k hk => ?_⟩⟩
  · obtain ⟨t, cs, ht, hb⟩ := hc.kind hf
    rcases ht with rfl | rfl | rfl | rfl <;> exact Blk.ne_ hX hb (by decide) rfl
  · rcases hk with hk | hk
    · exact .inl (.inl hk)
    · exact (hv k hk).imp .inr id
theorem aft {w w1 w2 : World} {q p b : Nat} {S T : Nat → Prop} {vl vr vt : Value} {H : Hist} {l : List Fr} {xs : Array Value} (hc : HisC w q p vl vr vt H) (hs : HS w p S l) (hB : Below w.heap.size w w1)
    (hX : Blk w1 b 35 xs) (st2 : Step S T w1 w2) : HisC w2 q p vl vr vt H ∧ Blk w2 b 35 xs ∧ Step S T w w2 :=
  ⟨(hc.ext hB).keep st2.upd (fun k hk => (hc.ext hB).apart (hs.ext hB) hk), hX.keep st2.upd ((hs.ext hB).not hX (by decide) (by decide)), (Step.ext hB).trans st2⟩

set_option maxRecDepth 100000 in
set_option maxHeartbeats 1600000 in
theorem henter_new_on (q p : Nat) (S : Nat → Prop) (vl vr vt : Value) (H : Hist) (l l' : List Fr) (k what rule P : Int) (w : World) (h : HisC w q p vl vr vt H) (hs : HS w p S l) (hl : l.length ≤ 1000000)
    (hn1 : H.l.length ≤ 1000) (hn2 : H.touches.length ≤ 1000) (hp0 : 0 ≤ nowOf H.l) (hp1 : nowOf H.l ≤ 1000) (hP : P = nowOf H.l + 1)
    (hpos : posOf (isSt rule P) H.l < 0) (hea : enterA l rule P = (0, l')) :
    Calls Try.prog 36 #[.pointer (some ⟨q, 0, none⟩), .int .i64 k, .agg #[.int .i64 what, .int .i64 rule, .bool true]] w fun e w' =>
      ∃ T vl' vt', e = .returned (.bool true) ∧ HisC w' q p vl' vr vt' { H with l := H.l ++ [⟨rule, P, k⟩], touches := H.touches ++ [⟨k, rule, P⟩] } ∧ HS w' p T l' ∧ Step (fun k => S k ∨ HFoot q vl vr vt k) (fun k => T k ∨ HFoot q vl' vr vt' k) w w' := by
  obtain ⟨iS, hi, hz0, hz1, hz2⟩ := info_parts (P := Try.prog) (e := 40) (z := .agg #[.int .i64 0, .int .i64 0, .int .i64 0]) (size := 3) (bytes := 24) (by kernel_rfl)
  obtain ⟨iT, ti, tz0, tz1, tz2⟩ := info_parts (P := Try.prog) (e := 87) (z := .agg #[.int .i64 0, .int .i64 0, .int .i64 0]) (size := 3) (bytes := 24) (by kernel_rfl)
  have HC := Lib.hid (fun W (hb : Below w.heap.size w W) => And.intro (now_any q p vl vr vt H W (h.ext hb)) (where_any q p vl vr vt H rule P W (h.ext hb)))
  have HE := Lib.hid (fun W (hb : Below w.heap.size w W) => call_to (Q := fun T' W' => Step S T' W W') hea (enter_uni S l rule P p W (hs.ext hb) hl))
  have HK := Lib.hid (And.intro h hs)
  obtain ⟨Al, cl, rfl, -⟩ := h.lform
  obtain ⟨At, ct, rfl, -⟩ := h.tform
  have hqw := h.blk.lt
  have h0 := h.c0
  generalize nowOf H.l = now at *
  generalize posOf (isSt rule P) H.l = pos at *
  have HP := Lib.hid hP
  have hpd : decide (0 ≤ pos) = false := by simpa using hpos
  have HPOS := Lib.hid hpos
  clear hpos
  clear h hs hea hP
  have hB0 : Below w.heap.size w (w.alloc (.cells #[.int .i64 what, .int .i64 rule, .bool true] 35)) := (ext_refl w).alloc (Nat.le_refl _) _
  have hX0 := Lib.hid (Blk.new w 35 #[.int .i64 what, .int .i64 rule, .bool true])
  have HB0 := Lib.hid hB0
  clear hB0
  go_enter Try.func36, Try.ntmps36
  go_wp2_with (first
    | (go_at_call 58; refine ((HC.out _ HB0.out).1).mono ?_; rintro e w1 ⟨rfl, hd1⟩; have hX1 := Lib.hid (hX0.out.ext (drew_ext hd1)); have hB1 := Lib.hid (ext_trans HB0.out (drew_ext hd1)); have x1 : w1.cell? ⟨w.heap.size, 1, none⟩ = some (.int .i64 rule) := hX1.out.cell 1; have x2 : w1.cell? ⟨w.heap.size, 2, none⟩ = some (.bool true) := hX1.out.cell 2; have xl := hX1.out.lt; have hq1 : w1.cell? ⟨q, 0, none⟩ = some (.pointer (some ⟨p, 0, none⟩)) := (hB1.out.cell (p := ⟨q, 0, none⟩) hqw).trans h0; have hql : q < w1.heap.size := Nat.lt_of_lt_of_le hqw hB1.out.size; clear hX0 HB0 hd1 h0)
    | (go_at_call 16; rw [← HP.out]; refine ((HC.out _ hB1.out).2).mono ?_; rintro e w2 ⟨rfl, rfl⟩))
  go_region_held3 (fun w' => w'.cell? ⟨q, 0, none⟩ = some (.pointer (some ⟨p, 0, none⟩)) ∧ w'.cell? ⟨w.heap.size, 1, none⟩ = some (.int .i64 rule)) (go_keep)
    (first | (go_at_call 21; refine (HE.out _ ?_).mono ?_; exact hB1.out.drew; rintro e w2 ⟨T, rfl, hs2, st2⟩
              have ha := aft HK.out.1 HK.out.2 hB1.out.drew hX1.out.drew st2
              have hA := Lib.hid (And.intro ha hs2)
              have c0 := ha.1.c0
              have c1 := ha.1.c1
              have cf := ha.1.blk.frozen 1
              have cl2 := ha.1.blk.lt
              have x1 : w2.cell? ⟨w.heap.size, 1, none⟩ = some (.int .i64 rule) := ha.2.1.cell 1
              have xl2 := ha.2.1.lt
              clear ha hs2 st2))
  go_wp2
  have hrl := Lib.hid (show w2.ownsRow 0 40 3 (.slice Al H.l.length cl) H.l.length ((H.l.map St.row).flatMap fun r => r.map (Value.int .i64)) by simpa using hA.out.1.1.l.1)
  have hW2 := Lib.hid (((ext_refl w2).alloc (Nat.le_refl _) (.cells #[.int .i64 rule, .int .i64 P, .int .i64 k] 40)).drew)
  go_region_law (refine step_app rfl (.tmp 36) (.tmp 42) 27 rfl 40 iS _ 3 24 Try.underlying27 hi hz0 hz1 hz2 rfl (by decide) (.slice Al H.l.length cl) H.l.length _ rfl ((hrl.out.alloc _).drew) _ 1 1 [.int .i64 rule, .int .i64 P, .int .i64 k] rfl rfl (by simp) (cells_newA _ _ _ _ (by simp)) (by simp [Value.oneCell']) (by unfold maxLen; omega) (by omega) ?_
                 intro A2 c2 w5 hrow5 hu5 hv5 hz5
                 have hq5 := (hA.out.1.1.ext hW2.out).q_l hu5
                 have k1 : w5.cell? ⟨q, 1, none⟩ = some (.slice Al H.l.length cl) := hq5.cell 1
                 have kf := hq5.frozen 1
                 have kl := hq5.lt
                 have HU := Lib.hid (And.intro hu5 (And.intro hv5 hrow5))
                 clear hu5 hv5 hz5 hrow5 hq5)
  all_goals
    obtain ⟨hu5, hv5, hrow5⟩ := HU.out
    have hW := hW2.out
    obtain ⟨r1, r2, r3⟩ := (hA.out.1.1.ext hW).push_l ⟨rule, P, k⟩ hrow5 hu5 hv5
    have hst : Step (fun k => S k ∨ HFoot q (.slice Al H.l.length cl) vr (.slice At H.touches.length ct) k) (fun k => T k ∨ HFoot q (.slice Al H.l.length cl) vr (.slice At H.touches.length ct) k) w w2 :=
      ⟨hA.out.1.2.2.upd.mono (fun k _ hk => .inl hk), fun k hk => by
        rcases hk with hk | hk
        · exact (hA.out.1.2.2.sub k hk).imp .inl id
        · exact .inl (.inr hk)⟩
    have ha2 := aft2 (hA.out.1.1.ext hW) (hA.out.2.ext hW) (hA.out.1.2.1.ext hW) (hst.trans (Step.ext hW)) r1 r2 r3
    generalize (w5.setCell ⟨q, 1, none⟩ (.slice A2 (H.l.length + 1) c2)) = w6 at *
    have hA6 := Lib.hid (And.intro r1 ha2)
    clear hW2
    clear r1 r2 r3 hst hW ha2 hu5 hv5 hrow5 HU k1 kf kl c0 c1 cf cl2 x1 xl2
    have c3 := hA6.out.1.c3
    have cf := hA6.out.1.blk.frozen 3
    have cl2 := hA6.out.1.blk.lt
    have x1 : w6.cell? ⟨w.heap.size, 1, none⟩ = some (.int .i64 rule) := hA6.out.2.2.1.cell 1
    have xl2 := hA6.out.2.2.1.lt
    have hrt := Lib.hid (show w6.ownsRow 0 87 3 (.slice At H.touches.length ct) H.touches.length ((H.touches.map Tc.row).flatMap fun r => r.map (Value.int .i64)) by simpa using hA6.out.1.touches.1)
    have hW6 := Lib.hid (((ext_refl w6).alloc (Nat.le_refl _) (.cells #[.int .i64 k, .int .i64 rule, .int .i64 P] 87)).drew)
    go_wp2
    go_region_law (refine step_app rfl (.tmp 50) (.tmp 56) 29 rfl 87 iT _ 3 24 Try.underlying29 ti tz0 tz1 tz2 rfl (by decide) (.slice At H.touches.length ct) H.touches.length _ rfl ((hrt.out.alloc _).drew) _ 1 1 [.int .i64 k, .int .i64 rule, .int .i64 P] rfl rfl (by simp) (cells_newA _ _ _ _ (by simp)) (by simp [Value.oneCell']) (by unfold maxLen; omega) (by omega) ?_
                   intro A3 c3' w7 hrow7 hu7 hv7 hz7
                   have hq7 := (hA6.out.1.ext hW6.out).q_t hu7
                   have k1 : w7.cell? ⟨q, 3, none⟩ = some (.slice At H.touches.length ct) := hq7.cell 3
                   have kf := hq7.frozen 3
                   have kl := hq7.lt
                   have HU := Lib.hid (And.intro hu7 (And.intro hv7 hrow7))
                   clear hu7 hv7 hz7 hrow7 hq7)
  all_goals
    go_wp2
    go_ret
    obtain ⟨hu7, hv7, hrow7⟩ := HU.out
    have hW := hW6.out
    obtain ⟨r1, r2, r3⟩ := (hA6.out.1.ext hW).push_touches ⟨k, rule, P⟩ hrow7 hu7 hv7
    have ha7 := aft2 (hA6.out.1.ext hW) (hA6.out.2.1.ext hW) (hA6.out.2.2.1.ext hW) (hA6.out.2.2.2.trans (Step.ext hW)) r1 r2 r3
    exact ⟨_, _, _, rfl, r1, ha7.1, ha7.2.2⟩
end Go.Proofs.Ytjmidomcgaijjaa
