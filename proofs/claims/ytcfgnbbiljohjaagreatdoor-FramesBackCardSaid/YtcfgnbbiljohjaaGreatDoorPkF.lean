/- Texts WRB, WRC, WRD, WRE, Signs, Laid, MapI, JC, one behind the other. Conditions: as each says. -/
import Derived.Test.YtcfgnbbiljohjaaGreatDoorPkE
import Derived.Lib.TrimUEq
import Derived.Lib.ValidLaws
import Derived.Test.YtcfgnbbiljohjaaGreatDoorCards
import Derived.Test.YtcfgnbbiljohjaaGreatDoorTie
import Derived.SevenTiedAt
import Derived.LaidLaws
import Derived.LaidHandle
import Derived.Lib.LaidIn
import Derived.Lib.LaidU8T
import Derived.PinnedBridge
import Derived.Deep.DeepHandedRow
import Derived.Deep.DeepWitnessRowRef
import Derived.JoinedOf
import Derived.Test.YtcfgnbbiljohjaaGreatDoorRows
import Derived.DeepKeys5
import Derived.Maps.Own
section
/- The document's bytes of numbers, texts, truths; its frame and the first frame of bytes. Conditions: bytes lie as 'Bytes' says. -/
set_option linter.unusedVariables false
set_option linter.unusedSimpArgs false
set_option maxHeartbeats 1000000
set_option maxRecDepth 10000
namespace Go.Proofs.YtcfgnbbiljohjaaGreatDoor
open Go.RowKit
theorem rnumL_any (w : World) (n : Nat) (hn : n < 9223372036854775808) :
    Calls Tryz.prog 70 #[.int .i64 (n : Int)] w fun e w' => ∃ v', e = .returned v' ∧ Upd NoB w w' (bytR v' (numL n)) := by
  have HM := Lib.hid (Mem.start0 w).bytNil
  have HNL := Lib.hid hn
  clear hn
  go_enter Tryz.func70, Tryz.ntmps70
  go_wp2_with fail
  go_loopw [3, 0] (fun x i wr => ∃ (m : Nat) (l1 : List UInt8) (a1 : Option Addr) (c1 : Nat), i = .int .i64 m ∧ x = .slice a1 l1.length c1 ∧ Hid (m < 9223372036854775808) ∧ Hid (numL n = l1 ++ numL m) ∧ Hid (Mem NoB w wr [bytR (.slice a1 l1.length c1) l1])) (fun _ i _ => (intOf i).toNat)
  case atStart => exact ⟨n, [], none, 0, rfl, rfl, HNL, Lib.hid rfl, HM⟩
  case round =>
    clear HM
    obtain ⟨m, l1, a1, c1, rfl, rfl, HML, HT, HM⟩ := hrel
    have hlen := congrArg List.length HT.out
    rw [List.length_append] at hlen
    have hl2 := numL_len n
    have HL1 := Lib.hid (show l1.length ≤ 10 by omega)
    clear hlen hl2
    by_cases hm : 128 ≤ m
    · have hm' : (128 : Int) ≤ (m : Int) := by omega
      have hst := numL_step HML.out
      rw [if_pos hm] at hst
      have hb : (128 + (m : Int) % 128) % 256 = 128 + (m : Int) % 128 := by omega
      have HWW := Lib.hid (show wrap64 ((m : Int) / 128) = (m : Int) / 128 from IntWalk.wrap64_in _ (by have := HML.out; omega))
      have HT' := Lib.hid (show numL n = (l1 ++ [UInt8.ofNat (m % 128 + 128)]) ++ numL (m / 128) by rw [HT.out, hst, List.append_assoc]; rfl)
      have HMM := Lib.hid hm
      clear hst hm HT
      go_wp2_with (at_builtin; refine standing ?_)
      refine nxt HM fun w1 M => ?_
      clear HM; have HM := M; clear M
      rw [show (128 + (m : Int) % 128) = (((m % 128 + 128) : Nat) : Int) by first | rfl | omega] at HM
      obtain ⟨Ahb, hb⟩ := HM.out.get (r := cellsR wr.heap.size 5 [.int .u8 (((m % 128 + 128) : Nat) : Int)]) (by with_reducible repeat first | exact ph | apply pt)
      replace HM := Lib.hid (HM.out.pick (r := bytR (.slice a1 l1.length c1) l1) (by with_reducible repeat first | exact ph | apply pt))
      obtain ⟨v8, w8, hr, hm9⟩ := Mem.bytAdd 30 HM.out _ _ (one_byte hb.2 (by omega)) (by have := HL1.out; simp; omega)
      obtain ⟨l2, hl2⟩ : ∃ l2, l1 ++ [UInt8.ofNat (m % 128 + 128)] = l2 := ⟨_, rfl⟩
      rw [hl2] at hm9
      have HL2 := Lib.hid hl2
      obtain ⟨a8, c8, rfl⟩ := hm9.fact (fun A h => bytR.len h)
      replace HM := Lib.hid hm9
      refine ⟨?_⟩
      refine wpList_append_ran rfl _ _ hr rfl rfl rfl ?_
      clear hr hm9 hb Ahb hl2
      replace HM := Lib.hid (Mem.sub HM.out (L' := [bytR (.slice a8 l2.length c8) l2]) (by repeat first | exact Sub.nil | refine Sub.cons (by with_reducible repeat first | exact ph | apply pt) ?_))
      rw [HL2.out] at HT'
      go_wp2_with fail
      rw [HWW.out]
      go_roundw
      case rel => exact ⟨m / 128, l2, a8, c8, by first | go_num | (rw [HWW.out]; go_num), rfl, Lib.hid (by have := HML.out; omega), HT', HM⟩
      case measure =>
        try rw [HWW.out]
        simp [intOf]; omega
    · have hm' : ¬ (128 : Int) ≤ (m : Int) := by omega
      have hst := numL_step HML.out
      rw [if_neg hm] at hst
      have hb : (m : Int) % 256 = m := by omega
      have HMM := Lib.hid (show m < 128 by omega)
      rw [hst] at HT
      clear hst hm
      go_wp2_with (at_builtin; refine standing ?_)
      refine nxt HM fun w1 M => ?_
      clear HM; have HM := M; clear M
      rw [show (m : Int) = ((m : Nat) : Int) by first | rfl | omega] at HM
      obtain ⟨Ahb, hb⟩ := HM.out.get (r := cellsR wr.heap.size 5 [.int .u8 ((m : Nat) : Int)]) (by with_reducible repeat first | exact ph | apply pt)
      replace HM := Lib.hid (HM.out.pick (r := bytR (.slice a1 l1.length c1) l1) (by with_reducible repeat first | exact ph | apply pt))
      obtain ⟨v8, w8, hr, hm9⟩ := Mem.bytAdd 30 HM.out _ _ (one_byte hb.2 (by have := HMM.out; omega)) (by have := HL1.out; simp; omega)
      obtain ⟨l2, hl2⟩ : ∃ l2, l1 ++ [UInt8.ofNat m] = l2 := ⟨_, rfl⟩
      rw [hl2] at hm9
      have HL2 := Lib.hid hl2
      obtain ⟨a8, c8, rfl⟩ := hm9.fact (fun A h => bytR.len h)
      replace HM := Lib.hid hm9
      refine ⟨?_⟩
      refine wpList_append_ran rfl _ _ hr rfl rfl rfl ?_
      clear hr hm9 hb Ahb hl2
      replace HM := Lib.hid (Mem.sub HM.out (L' := [bytR (.slice a8 l2.length c8) l2]) (by repeat first | exact Sub.nil | refine Sub.cons (by with_reducible repeat first | exact ph | apply pt) ?_))
      go_wp2_with fail
      go_ret
      rw [HT.out]
      have := HL2.out
      exact ⟨_, rfl, by rw [show l1 ++ [UInt8.ofNat m] = l2 from this]; exact HM.out.upd⟩
theorem rtruL_any (w : World) (t : Bool) :
    Calls Tryz.prog 45 #[.bool t] w fun e w' => ∃ v', e = .returned v' ∧ Upd NoB w w' (bytR v' (truL t)) := by
  have HM := Lib.hid (Mem.start0 w)
  cases t
  all_goals
    go_enter Tryz.func45, Tryz.ntmps45
    go_wp2_with fail
    refine nxt HM fun w1 M => ?_
    clear HM; have HM := M; clear M
    go_ret
  · exact ⟨_, rfl, (Mem.bytMade (l := truL false) HM.out (by decide)).upd⟩
  · exact ⟨_, rfl, (Mem.bytMade (l := truL true) HM.out (by decide)).upd⟩
theorem rtxtL_any (w : World) (s : List UInt8) (hs : s.length ≤ 1048576) :
    Calls Tryz.prog 46 #[.string (bs s)] w fun e w' => ∃ v', e = .returned v' ∧ Upd NoB w w' (bytR v' (txtL s)) := by
  have HM := Lib.hid (Mem.start0 w)
  have hsz : (bs s).size = s.length := bs_size s
  have HSL := Lib.hid hs
  go_enter Tryz.func46, Tryz.ntmps46
  go_wp2_with fail
  refine (rnumL_any w s.length (by omega)).mono ?_
  rintro e w2 ⟨v2, rfl, hU⟩
  obtain ⟨l2, hl2⟩ : ∃ l2, numL s.length = l2 := ⟨_, rfl⟩
  have HL2 := Lib.hid (show numL s.length = l2 ∧ l2.length ≤ 10 from ⟨hl2, by rw [← hl2]; exact (numL_len _).2⟩)
  rw [hl2] at hU
  obtain ⟨a2, c2, rfl⟩ : ∃ a2 c2, v2 = .slice a2 l2.length c2 := let ⟨_, h, _⟩ := hU; bytR.len h
  obtain ⟨F2, u1, u2, u3⟩ := hU
  replace HM := Lib.hid ((Mem.start0 w).new (r := bytR (.slice a2 l2.length c2) l2) (G := F2) u2 u1 (fun k hk => (u3 k hk).elim (fun h => (noB _ h).elim) id))
  obtain ⟨v3, w3, hcv, hb3, hE3, hs3⟩ := conv_bytes w2 s
  have HB3 := Lib.hid hb3
  replace HM := Lib.hid (HM.out.ext hE3)
  obtain ⟨a3, c3, rfl⟩ := hb3.len
  clear u1 u2 u3 F2 hl2 hb3 hE3 hs3
  go_wp2_with (at_builtin; refine standing ?_)
  obtain ⟨v8, w8, hr, hm9⟩ := Mem.bytAdd 30 HM.out _ _ HB3.out (by have := HL2.out; have := HSL.out; omega)
  replace HM := Lib.hid hm9
  refine ⟨?_⟩
  refine wpList_append_ran rfl _ _ hr rfl rfl rfl ?_
  clear hr hm9
  go_wp2_with fail
  go_ret
  unfold txtL
  rw [HL2.out.1]
  exact ⟨_, rfl, HM.out.upd⟩
theorem rframe_any {A : Nat → Prop} (w : World) (v : Value) (l : List UInt8) (h : Bytes w A v l) (hl : l.length ≤ 4096) :
    Calls Tryz.prog 35 #[v] w fun e w' => ∃ v', e = .returned v' ∧ Upd NoB w w' (bytR v' (frameL l)) := by
  have HB := Lib.hid h
  obtain ⟨a, c, rfl⟩ := h.len
  have HLL := Lib.hid hl
  clear h
  go_enter Tryz.func35, Tryz.ntmps35
  go_wp2_with fail
  refine (rseal_any w _ l (by omega) HB.out).mono ?_
  rintro e w2 ⟨v2, rfl, hU⟩
  obtain ⟨hb2, hE2⟩ := hU.byt
  have HB2 := Lib.hid hb2
  have HM := Lib.hid ((Mem.start0 w).ext hE2)
  obtain ⟨a2, c2, rfl⟩ := hb2.len
  rw [sealL_len]
  rw [sealL_len] at HB2
  clear hU hb2 hE2
  go_wp2_with fail
  rw [show ((l.length : Int) + 4) = ((l.length + 4 : Nat) : Int) from rfl]
  refine (rnumL_any w2 (l.length + 4) (by omega)).mono ?_
  rintro e w3 ⟨v3, rfl, hU⟩
  obtain ⟨l2, hl2⟩ : ∃ l2, numL (l.length + 4) = l2 := ⟨_, rfl⟩
  have HL2 := Lib.hid (show numL (l.length + 4) = l2 ∧ l2.length ≤ 10 from ⟨hl2, by rw [← hl2]; exact (numL_len _).2⟩)
  rw [hl2] at hU
  obtain ⟨a3, c3, rfl⟩ : ∃ a2 c2, v3 = .slice a2 l2.length c2 := let ⟨_, h, _⟩ := hU; bytR.len h
  obtain ⟨F2, u1, u2, u3⟩ := hU
  replace HM := Lib.hid (HM.out.new (r := bytR (.slice a3 l2.length c3) l2) (G := F2) u2 u1 (fun k hk => (u3 k hk).elim (fun h => (noB _ h).elim) id))
  replace HB2 := Lib.hid (HB2.out.ext u2)
  clear u1 u2 u3 F2 hl2
  go_wp2_with (at_builtin; refine standing ?_)
  obtain ⟨v8, w8, hr, hm9⟩ := Mem.bytAdd 30 HM.out _ _ HB2.out (by rw [sealL_len]; have := HL2.out; omega)
  replace HM := Lib.hid hm9
  refine ⟨?_⟩
  refine wpList_append_ran rfl _ _ hr rfl rfl rfl ?_
  clear hr hm9
  go_wp2_with fail
  go_ret
  unfold frameL
  rw [HL2.out.1]
  exact ⟨_, rfl, HM.out.upd⟩
end Go.Proofs.YtcfgnbbiljohjaaGreatDoor
end
section
/- The document's first frame of bytes, and its reader. Conditions: bytes lie as 'Bytes' says. -/
set_option linter.unusedVariables false
set_option linter.unusedSimpArgs false
set_option maxHeartbeats 4000000
set_option maxRecDepth 10000
namespace Go.Proofs.YtcfgnbbiljohjaaGreatDoor
open Go.RowKit
theorem rsplit_any {A : Nat → Prop} (w : World) (v : Value) (l : List UInt8) (h : Bytes w A v l) (hA : ∀ k, A k → k < w.heap.size) (hl : l.length ≤ 1099511627776) :
    Calls Tryz.prog 49 #[v] w fun e w' => splitE w w' l e ∧ Ext w w' := by
  obtain ⟨a, c, rfl⟩ := h.len
  have HM := Lib.hid (Mem.start0 w)
  have HB := Lib.hid h
  have HA := Lib.hid hA
  have HLL := Lib.hid hl
  have hcap := h.cap
  have hsp : splitL l = splitL l := rfl
  conv at hsp => rhs; unfold splitL
  have HS := Lib.hid hsp
  clear h hA hsp
  go_enter Tryz.func49, Tryz.ntmps49
  go_wp2_with fail
  refine (rtake_any w _ l (by omega) HB.out).mono ?_
  rintro e w' ⟨rfl, hwq⟩
  rw [hwq]
  clear hwq w'
  obtain ⟨hk1, hk2, hk3⟩ := takeL_k l
  obtain ⟨k, hk⟩ : ∃ k, (takeL l).2 = k := ⟨_, rfl⟩
  obtain ⟨m, hm⟩ : ∃ m, (takeL l).1 = m := ⟨_, rfl⟩
  have hm2 := takeL_le l
  rw [hk, hm] at HS ⊢
  rw [hk] at hk1 hk2 hk3
  rw [hm] at hm2
  clear hk hm
  by_cases h1 : k < 0
  · rw [if_neg (show ¬ k = 0 by omega), if_pos (.inl h1)] at HS
    go_wp2_with fail
    go_ret3
    exact ⟨splitE.nil HS.out, HM.out.extTo⟩
  by_cases h0 : k = 0
  · subst h0
    rw [if_pos rfl] at HS
    go_wp2_with fail
    go_ret3
    exact ⟨splitE.nil HS.out, HM.out.extTo⟩
  rw [if_neg h0] at HS
  have h0' : (k == 0) = false := by simpa using h0
  by_cases h2 : m < 4 ∨ 4100 < m
  · rw [if_pos (.inr h2)] at HS
    by_cases h4 : m < 4
    · have h4' : (m : Int) < 4 := by omega
      clear h2
      go_wp2_with fail
      go_ret3
      exact ⟨splitE.nil HS.out, HM.out.extTo⟩
    · have h4' : ¬ (m : Int) < 4 := by omega
      have h5' : (4100 : Int) < (m : Int) := by omega
      clear h2
      go_wp2_with fail
      go_ret3
      exact ⟨splitE.nil HS.out, HM.out.extTo⟩
  rw [if_neg (fun h => h.elim (fun h => absurd h1 (by omega)) h2)] at HS
  have h4' : ¬ (m : Int) < 4 := by omega
  have h5' : ¬ (4100 : Int) < (m : Int) := by omega
  clear h2
  obtain ⟨kn, rfl⟩ : ∃ kn : Nat, k = kn := ⟨k.toNat, by omega⟩
  rw [Int.toNat_natCast] at HS
  have hw1 : wrap64 ((l.length : Int) - (kn : Int)) = (l.length : Int) - (kn : Int) := IntWalk.wrap64_in _ (by omega)
  by_cases h3 : l.length < kn + m
  · rw [if_pos h3] at HS
    have h3' : (l.length : Int) - (kn : Int) < (m : Int) := by omega
    go_wp2_with fail
    go_ret3
    exact ⟨splitE.nil HS.out, HM.out.extTo⟩
  rw [if_neg h3] at HS
  have h3' : ¬ (l.length : Int) - (kn : Int) < (m : Int) := by omega
  obtain ⟨ed, hed⟩ : ∃ ed, kn + m = ed := ⟨_, rfl⟩
  have hed' : (kn : Int) + (m : Int) = (ed : Int) := by omega
  have hw2 : wrap64 ((kn : Int) + (m : Int)) = (ed : Int) := by rw [hed']; exact IntWalk.wrap64_in _ (by omega)
  have hsl := fun W => slice_lh W a l.length c kn ed (by omega) (by omega)
  have hb1 := HB.out.part kn ed (by omega) (by omega)
  have e0 : (l.take ed).drop kn = (l.drop kn).take m := by rw [List.drop_take]; congr 1; omega
  rw [e0] at hb1
  obtain ⟨a1, c1, e1⟩ := part_len (a := a) (i := kn) (j := ed) (c := c) (s := 1)
  rw [e1] at hsl hb1
  rw [show ed - kn = m by omega] at hsl hb1
  obtain ⟨q, hq⟩ : ∃ q, (l.drop kn).take m = q := ⟨_, rfl⟩
  rw [hq] at HS hb1
  have hql : q.length = m := by rw [← hq, List.length_take, List.length_drop]; omega
  rw [hed] at HS
  have HB1 := Lib.hid hb1
  have HQL := Lib.hid (show q.length ≤ 4100 by omega)
  clear hb1 hq e0 e1 hql hed
  go_wp2_with fail
  refine (ropen_any w _ q (by have := HQL.out; omega) HB1.out).mono ?_
  rintro e w2 ⟨⟨r, rfl, hr⟩, hE⟩
  have HE := Lib.hid hE
  unfold openE at hr
  cases ho : openL q with
  | none =>
    rw [ho] at hr HS
    have hr' : r = .tuple #[.slice none 0 0, .int .i64 110] := hr
    subst hr'
    clear hr ho
    go_wp2_with fail
    go_ret3
    exact ⟨splitE.nil HS.out, HE.out⟩
  | some x =>
    rw [ho] at hr HS
    obtain ⟨b, rfl, hb⟩ := hr
    have HX := Lib.hid hb
    clear hb ho
    go_wp2_with fail
    go_ret3
    refine ⟨?_, HE.out⟩
    unfold splitE
    rw [HS.out]
    exact ⟨_, rfl, HX.out⟩
/-- a reader of the document, as a value -/
def RdV (A : Nat → Prop) (w : World) (r : Rdr) (x : Value) : Prop := ∃ a c, x = .agg #[.slice a r.b.length c, .int .i64 r.e] ∧ Bytes w A (.slice a r.b.length c) r.b
theorem RdV.ext {A : Nat → Prop} {w w' : World} {r : Rdr} {x : Value} (h : RdV A w r x) (e : Ext w w') : RdV A w' r x := let ⟨a, c, h1, h2⟩ := h; ⟨a, c, h1, h2.ext e⟩
theorem Bytes.swap {A : Nat → Prop} {w0 w w' : World} {v : Value} {l : List UInt8} (h : Bytes w A v l) (hA : ∀ k, A k → k < w0.heap.size) (e : Ext w0 w) (e' : Ext w0 w') : Bytes w' A v l :=
  SlV.mono h (fun _ h => h) fun b o c hb hc => by
    unfold ByteAt at hc ⊢
    rw [e.reads.1 b o (hA b hb)] at hc
    rw [e'.reads.1 b o (hA b hb)]; exact hc
theorem RdV.swap {A : Nat → Prop} {w0 w w' : World} {r : Rdr} {x : Value} (h : RdV A w r x) (hA : ∀ k, A k → k < w0.heap.size) (e : Ext w0 w) (e' : Ext w0 w') : RdV A w' r x := let ⟨a, c, h1, h2⟩ := h; ⟨a, c, h1, h2.swap hA e e'⟩
theorem RdV.bad (A : Nat → Prop) (w : World) : RdV A w Rdr.bad (.agg #[.slice none 0 0, .int .i64 120]) := ⟨none, 0, rfl, SlV.nil⟩
theorem rfail_any (w : World) (v : Value) (e : Int) (hv : ∃ a n c, v = .slice a n c) : Calls Tryz.prog 76 #[.agg #[v, .int .i64 e]] w fun r w' => r = .returned (.tuple #[.agg #[.slice none 0 0, .int .i64 120], .int .i64 120]) ∧ Ext w w' := by
  obtain ⟨a, n, c, rfl⟩ := hv
  have HM := Lib.hid (Mem.start0 w)
  go_enter Tryz.func76, Tryz.ntmps76
  have fM := HM.out.fa
  go_wp2_with fail
  all_goals clear fM
  refine nxt HM fun w1 M => ?_
  clear HM; have HM := M; clear M
  obtain ⟨Ahb, hb⟩ := HM.out.get (r := cellsR (w.heap.size + 1) 89 [.slice none 0 0, .int .i64 120]) (by with_reducible repeat first | exact ph | apply pt)
  have hc := hb.2.reads.1
  refine bodyPost_ret (v := .tuple #[.agg #[.slice none 0 0, .int .i64 120], .int .i64 120]) (by simp [results, Tryz.results76, go_sem, hc]) rfl ⟨rfl, HM.out.extTo⟩
end Go.Proofs.YtcfgnbbiljohjaaGreatDoor
end
section
/- The document's reader: a number, a text, a truth. Condition: its bytes lie as 'RdV' says. -/
set_option linter.unusedVariables false
set_option linter.unusedSimpArgs false
set_option maxHeartbeats 4000000
set_option maxRecDepth 10000
namespace Go.Proofs.YtcfgnbbiljohjaaGreatDoor
open Go.RowKit
theorem rvnum_any {A : Nat → Prop} (w : World) (r : Rdr) (x : Value) (g : Int) (hl : r.b.length ≤ 70368744177664) (h : RdV A w r x) (hA : ∀ k, A k → k < w.heap.size) :
    Calls Tryz.prog 75 #[x, .int .i64 g] w fun e w' => (∃ y, e = .returned (.tuple #[y, .int .i64 ((r.num g).2.1 : Int), .int .i64 (r.num g).2.2]) ∧ RdV A w' (r.num g).1 y) ∧ Ext w w' := by
  by_cases hr : r.e = 0
  case neg =>
    have hq : r.num g = (r, 0, r.e) := by unfold Rdr.num; rw [if_pos hr]
    have HQ := Lib.hid hq
    obtain ⟨a, c, rfl, hb⟩ := h
    have HB := Lib.hid hb
    have HA := Lib.hid hA
    have HLL := Lib.hid hl
    have HM := Lib.hid (Mem.start0 w)
    obtain ⟨l, e0⟩ := r
    dsimp only at HB HLL ⊢
    clear hb hA hl
    have hr' : (e0 == 0) = false := by simpa using hr
    clear hr hq
    go_enter Tryz.func75, Tryz.ntmps75
    have fM := HM.out.fa
    go_wp2_with fail
    all_goals clear fM
    refine nxt HM fun w1 M => ?_
    clear HM; have HM := M; clear M
    have fM := HM.out.fa
    have hE0 : Keeps (OneB (w.heap.size + 1)) w1 w1.drew := (Keeps.refl _ _).drew
    refine wp_region_plan [(3, 0), (0, 1), (1, 2), (2, 3), (0, 4), (0, 5)] [2] [3] [] (ClsK (OneB (w.heap.size + 1)) w1) (by kernel_rfl) (by kernel_rfl) (by kernel_rfl) rfl rfl (ClsK.of hE0) (fun _ _ _ d _ h => by cases d <;> exact h) ?_; simp only [planL, nL]
    refine pX (v := ?_) rfl ?_ ?_; rotate_left; (go_simp <;> with_reducible rfl); simp only [nP]
    refine pR (v := ?_) rfl (fun W => ?_) ?_; rotate_left; (go_simp <;> with_reducible rfl); simp only [nP]
    refine pK (v := ?_) rfl (fun W => ?_) ?_; rotate_left; (go_simp <;> with_reducible rfl); simp only [nP]
    refine plan_does rfl (fun K hK => ?_)
    go_wp2_with fail
    refine ⟨ClsK.of (by repeat (first | assumption | exact Keeps.refl _ _ | refine Keeps.alloc ?_ _ | refine Keeps.setOne ?_ _ _ | refine Keeps.setCell ?_ _ _ (.inl (by first | rfl | exact .inl rfl | exact .inr rfl | omega)) | refine Keeps.drew ?_)), ?_⟩; try simp only [nP]
    refine pA _ rfl rfl ?_; simp only [nP, Act.eval]
    refine pA _ rfl rfl ?_; simp only [nP, nE]
    refine plan_nil ?_; simp only [tailL, List.filterMap_nil]
    go_wp2_with fail
    clear fM
    clear hE0
    refine nxt HM fun w3 M => ?_
    clear HM; have HM := M; clear M
    obtain ⟨Ahb, hb⟩ := HM.out.get (r := cellsR (w.heap.size + 1) 89 [.slice a l.length c, .int .i64 e0]) (by with_reducible repeat first | exact ph | apply pt)
    have hcc := hb.2.reads.1
    clear hb
    refine bodyPost_ret (v := .tuple #[.agg [.slice a l.length c, .int .i64 e0].toArray, .int .i64 0, .int .i64 e0]) (by simp [results, Tryz.results75, go_sem, hcc]) rfl ?_
    clear hcc
    rw [HQ.out]
    exact ⟨⟨_, rfl, RdV.ext ⟨a, c, rfl, HB.out⟩ HM.out.extTo⟩, HM.out.extTo⟩
  have hne : ¬ r.e ≠ 0 := by simpa using hr
  by_cases hg : g < 0
  · have hq : r.num g = (r, 0, 2) := by unfold Rdr.num; rw [if_neg hne, if_pos hg]
    have HQ := Lib.hid hq
    obtain ⟨a, c, rfl, hb⟩ := h
    have HB := Lib.hid hb
    have HA := Lib.hid hA
    have HLL := Lib.hid hl
    have HM := Lib.hid (Mem.start0 w)
    obtain ⟨l, e0⟩ := r
    dsimp only at HB HLL ⊢
    clear hb hA hl
    dsimp only at hr
    subst hr
    clear hq hne
    go_enter Tryz.func75, Tryz.ntmps75
    have fM := HM.out.fa
    go_wp2_with fail
    all_goals clear fM
    refine nxt HM fun w3 M => ?_
    clear HM; have HM := M; clear M
    obtain ⟨Ahb, hb⟩ := HM.out.get (r := cellsR (w.heap.size + 1) 89 [.slice a l.length c, .int .i64 0]) (by with_reducible repeat first | exact ph | apply pt)
    have hcc := hb.2.reads.1
    clear hb
    refine bodyPost_ret (v := .tuple #[.agg [.slice a l.length c, .int .i64 0].toArray, .int .i64 0, .int .i64 2]) (by simp [results, Tryz.results75, go_sem, hcc]) rfl ?_
    clear hcc
    rw [HQ.out]
    exact ⟨⟨_, rfl, RdV.ext ⟨a, c, rfl, HB.out⟩ HM.out.extTo⟩, HM.out.extTo⟩
  have hq0 : r.num g = if 0 < (takeL r.b).2 ∧ ((takeL r.b).1 : Int) ≤ g then (⟨r.b.drop (takeL r.b).2.toNat, 0⟩, (takeL r.b).1, 0) else (Rdr.bad, 0, 120) := by unfold Rdr.num; rw [if_neg hne, if_neg hg]
  have HQ := Lib.hid hq0
  obtain ⟨a, c, rfl, hb⟩ := h
  have HB := Lib.hid hb
  have HA := Lib.hid hA
  have HLL := Lib.hid hl
  have HM := Lib.hid (Mem.start0 w)
  obtain ⟨l, e0⟩ := r
  dsimp only at HB HLL ⊢
  clear hb hA hl
  dsimp only at hr
  subst hr
  clear hq0 hne
  go_enter Tryz.func75, Tryz.ntmps75
  have fM := HM.out.fa
  go_wp2_with fail
  all_goals clear fM
  refine nxt HM fun w1 M => ?_
  clear HM; have HM := M; clear M
  refine (rtake_any w1 _ l HLL.out (HB.out.ext HM.out.extTo)).mono ?_
  rintro e w' ⟨rfl, hwq⟩
  rw [hwq]
  clear hwq w'
  obtain ⟨hk1, hk2, hk3⟩ := takeL_k l
  obtain ⟨k, hk⟩ : ∃ k, (takeL l).2 = k := ⟨_, rfl⟩
  obtain ⟨n, hn⟩ : ∃ n, (takeL l).1 = n := ⟨_, rfl⟩
  rw [hk, hn] at HQ ⊢
  rw [hk] at hk1 hk2 hk3
  clear hk hn
  by_cases hk : 0 < k ∧ (n : Int) ≤ g
  · rw [if_pos hk] at HQ
    obtain ⟨kn, rfl⟩ : ∃ kn : Nat, k = kn := ⟨k.toNat, by omega⟩
    rw [Int.toNat_natCast] at HQ
    have g1 : ¬ (kn : Int) ≤ 0 := by omega
    have g2 : ¬ g < (n : Int) := by omega
    have hkl : kn ≤ l.length := by omega
    have hsl := fun W => slice_l W a l.length c kn hkl
    have hb1 := HB.out.part kn l.length hkl (Nat.le_refl _)
    rw [List.take_length] at hb1
    obtain ⟨a2, c2, e2⟩ := part_len (a := a) (i := kn) (j := l.length) (c := c) (s := 1)
    rw [e2] at hsl hb1
    rw [show l.length - kn = (l.drop kn).length by rw [List.length_drop]] at hsl hb1
    obtain ⟨d, hd⟩ : ∃ d, l.drop kn = d := ⟨_, rfl⟩
    rw [hd] at hsl hb1 HQ
    have HB1 := Lib.hid hb1
    clear hk hk1 hk2 hk3 hb1 e2 hd hkl
    have fM := HM.out.fa
    go_wp2_with fail
    all_goals clear fM
    refine nxt HM fun w3 M => ?_
    clear HM; have HM := M; clear M
    obtain ⟨Ahb, hb⟩ := HM.out.get (r := cellsR (w.heap.size + 1) 89 [.slice a2 d.length c2, .int .i64 0]) (by with_reducible repeat first | exact ph | apply pt)
    have hcc := hb.2.reads.1
    clear hb
    refine bodyPost_ret (v := .tuple #[.agg [.slice a2 d.length c2, .int .i64 0].toArray, .int .i64 (n : Int), .int .i64 0]) (by simp [results, Tryz.results75, go_sem, hcc]) rfl ?_
    clear hcc
    rw [HQ.out]
    exact ⟨⟨_, rfl, RdV.ext ⟨a2, c2, rfl, HB1.out⟩ HM.out.extTo⟩, HM.out.extTo⟩
  · rw [if_neg hk] at HQ
    by_cases hk0 : k ≤ 0
    · clear hk
      have fM := HM.out.fa
      go_wp2_with fail
      all_goals clear fM
      refine nxt HM fun w2 M => ?_
      clear HM; have HM := M; clear M
      refine (rfail_any w2 _ 0 ⟨_, _, _, rfl⟩).mono ?_
      rintro e w3 ⟨rfl, hE⟩
      replace HM := Lib.hid (HM.out.ext hE)
      clear hE
      have fM := HM.out.fa
      go_wp2_with fail
      all_goals clear fM
      refine nxt HM fun w3 M => ?_
      clear HM; have HM := M; clear M
      obtain ⟨Ahb, hb⟩ := HM.out.get (r := cellsR (w.heap.size + 1) 89 [.slice none 0 0, .int .i64 120]) (by with_reducible repeat first | exact ph | apply pt)
      have hcc := hb.2.reads.1
      clear hb
      refine bodyPost_ret (v := .tuple #[.agg [.slice none 0 0, .int .i64 120].toArray, .int .i64 0, .int .i64 120]) (by simp [results, Tryz.results75, go_sem, hcc]) rfl ?_
      clear hcc
      rw [HQ.out]
      exact ⟨⟨_, rfl, RdV.bad _ _⟩, HM.out.extTo⟩
    · have g2 : g < (n : Int) := by
        rcases Int.lt_or_le g n with h | h
        · exact h
        · exact absurd ⟨by omega, h⟩ hk
      clear hk
      have fM := HM.out.fa
      go_wp2_with fail
      all_goals clear fM
      refine nxt HM fun w2 M => ?_
      clear HM; have HM := M; clear M
      refine (rfail_any w2 _ 0 ⟨_, _, _, rfl⟩).mono ?_
      rintro e w3 ⟨rfl, hE⟩
      replace HM := Lib.hid (HM.out.ext hE)
      clear hE
      have fM := HM.out.fa
      go_wp2_with fail
      all_goals clear fM
      refine nxt HM fun w3 M => ?_
      clear HM; have HM := M; clear M
      obtain ⟨Ahb, hb⟩ := HM.out.get (r := cellsR (w.heap.size + 1) 89 [.slice none 0 0, .int .i64 120]) (by with_reducible repeat first | exact ph | apply pt)
      have hcc := hb.2.reads.1
      clear hb
      refine bodyPost_ret (v := .tuple #[.agg [.slice none 0 0, .int .i64 120].toArray, .int .i64 0, .int .i64 120]) (by simp [results, Tryz.results75, go_sem, hcc]) rfl ?_
      clear hcc
      rw [HQ.out]
      exact ⟨⟨_, rfl, RdV.bad _ _⟩, HM.out.extTo⟩
theorem rvtxt_any {A : Nat → Prop} (w : World) (r : Rdr) (x : Value) (g : Int) (hl : r.b.length ≤ 70368744177664) (h : RdV A w r x) (hA : ∀ k, A k → k < w.heap.size) :
    Calls Tryz.prog 77 #[x, .int .i64 g] w fun e w' => (∃ y, e = .returned (.tuple #[y, .string (bs (r.txt g).2.1), .int .i64 (r.txt g).2.2]) ∧ RdV A w' (r.txt g).1 y) ∧ Ext w w' := by
  have hsp : r.txt g = r.txt g := rfl
  conv at hsp => rhs; unfold Rdr.txt
  have HQ := Lib.hid hsp
  have HX := Lib.hid h
  have HL0 := Lib.hid hl
  obtain ⟨q, hq⟩ : ∃ q, r.num g = q := ⟨_, rfl⟩
  have HNQ := Lib.hid hq
  have hlq : q.1.b.length ≤ r.b.length := by
    rw [← hq]
    unfold Rdr.num
    split
    · exact Nat.le_refl _
    · split
      · exact Nat.le_refl _
      · split
        · dsimp only; rw [List.length_drop]; omega
        · exact Nat.zero_le _
  rw [hq] at HQ
  clear hsp hq
  obtain ⟨r', n, no⟩ := q
  dsimp only at hlq
  have HA := Lib.hid hA
  obtain ⟨a, c, rfl, hb⟩ := h
  have HM := Lib.hid (Mem.start0 w)
  clear hb hA
  go_enter Tryz.func77, Tryz.ntmps77
  have fM := HM.out.fa
  go_wp2_with fail
  all_goals clear fM
  refine nxt HM fun w1 M => ?_
  clear HM; have HM := M; clear M
  have hsz := HM.out.keepsTo.size
  refine (rvnum_any w1 r _ g HL0.out (HX.out.ext HM.out.extTo) (fun k hk => Nat.lt_of_lt_of_le (HA.out k hk) hsz)).mono ?_
  rintro e w2 ⟨⟨y, rfl, hy⟩, hE⟩
  rw [HNQ.out] at hy ⊢
  replace HM := Lib.hid (HM.out.ext hE)
  obtain ⟨a2, c2, rfl, hb2⟩ := hy
  have HB2 := Lib.hid (hb2.swap HA.out HM.out.extTo (Keeps.refl _ w))
  obtain ⟨l, e0⟩ := r'
  dsimp only at HB2 HQ hlq ⊢
  have HLQ := Lib.hid hlq
  clear hE hb2 hlq hsz
  by_cases hno : no = 0
  case neg =>
    rw [if_pos hno] at HQ
    have hno' : (no == 0) = false := by simpa using hno
    clear hno
    have fM := HM.out.fa
    go_wp2_with fail
    all_goals clear fM
    refine nxt HM fun w3 M => ?_
    clear HM; have HM := M; clear M
    obtain ⟨Ahb, hb⟩ := HM.out.get (r := cellsR (w.heap.size + 1) 89 [.slice a2 l.length c2, .int .i64 e0]) (by with_reducible repeat first | exact ph | apply pt)
    have hcc := hb.2.reads.1
    clear hb
    refine bodyPost_ret (v := .tuple #[.agg [.slice a2 l.length c2, .int .i64 e0].toArray, .string ⟨#[]⟩, .int .i64 no]) (by simp [results, Tryz.results77, go_sem, hcc]) rfl ?_
    clear hcc
    rw [HQ.out]
    exact ⟨⟨_, rfl, RdV.ext ⟨a2, c2, rfl, HB2.out⟩ HM.out.extTo⟩, HM.out.extTo⟩
  subst hno
  rw [if_neg (by simp)] at HQ
  by_cases hn : n ≤ l.length
  case neg =>
    rw [if_neg hn] at HQ
    have hn' : (l.length : Int) < (n : Int) := by omega
    clear hn
    have fM := HM.out.fa
    go_wp2_with fail
    all_goals clear fM
    refine nxt HM fun w4 M => ?_
    clear HM; have HM := M; clear M
    refine (rfail_any w4 _ _ ⟨_, _, _, rfl⟩).mono ?_
    rintro e w5 ⟨rfl, hE⟩
    replace HM := Lib.hid (HM.out.ext hE)
    clear hE
    have fM := HM.out.fa
    go_wp2_with fail
    all_goals clear fM
    refine nxt HM fun w3 M => ?_
    clear HM; have HM := M; clear M
    obtain ⟨Ahb, hb⟩ := HM.out.get (r := cellsR (w.heap.size + 1) 89 [.slice none 0 0, .int .i64 120]) (by with_reducible repeat first | exact ph | apply pt)
    have hcc := hb.2.reads.1
    clear hb
    refine bodyPost_ret (v := .tuple #[.agg [.slice none 0 0, .int .i64 120].toArray, .string ⟨#[]⟩, .int .i64 120]) (by simp [results, Tryz.results77, go_sem, hcc]) rfl ?_
    clear hcc
    rw [HQ.out]
    exact ⟨⟨_, rfl, RdV.bad _ _⟩, HM.out.extTo⟩
  rw [if_pos hn] at HQ
  have hn' : ¬ (l.length : Int) < (n : Int) := by omega
  have hcap := HB2.out.cap
  have hsl := fun W => slice_l W a2 l.length c2 n hn
  have hsh := fun W => slice_h W a2 l.length c2 n (by omega)
  have hb1 := HB2.out.part n l.length hn (Nat.le_refl _)
  have hb0 := HB2.out.part 0 n (by omega) hn
  rw [List.take_length] at hb1
  rw [List.drop_zero] at hb0
  obtain ⟨a3, c3, e3⟩ := part_len (a := a2) (i := n) (j := l.length) (c := c2) (s := 1)
  obtain ⟨a4, c4, e4⟩ := part_len (a := a2) (i := 0) (j := n) (c := c2) (s := 1)
  rw [e3] at hsl hb1
  rw [e4, Nat.sub_zero] at hsh hb0
  rw [show l.length - n = (l.drop n).length by rw [List.length_drop]] at hsl hb1
  obtain ⟨d, hd⟩ : ∃ d, l.drop n = d := ⟨_, rfl⟩
  obtain ⟨s, hs⟩ : ∃ s, l.take n = s := ⟨_, rfl⟩
  have hsn : s.length = n := by rw [← hs, List.length_take]; omega
  rw [hd] at hsl hb1 HQ
  rw [hs] at hb0 HQ
  have HB1 := Lib.hid hb1
  have HB0 := Lib.hid hb0
  clear hb1 hb0 e3 e4 hd hs hn hcap
  have fM := HM.out.fa
  go_wp2_with fail
  all_goals clear fM
  refine nxt HM fun w4 M => ?_
  clear HM; have HM := M; clear M
  have hE4 := HM.out.extTo
  have hkk : ∀ y : KeepsW (OneB (w.heap.size + 1)) w4, (convert 30 9 (.slice a4 n c4)).run Tryz.prog y.w = .ok (.string (bs s)) y.w := fun y =>
    ((HB0.out.ext hE4).keeps y.h (fun k hk he => by have := HA.out k hk; have : k = w.heap.size + 1 := he; omega)).str
  clear hE4
  have fM := HM.out.fa
  have hE0 : Keeps (OneB (w.heap.size + 1)) w4 w4.drew := (Keeps.refl _ _).drew
  refine wp_region_plan [(0, 0), (3, 1), (0, 2), (0, 3), (0, 4), (0, 5), (1, 6), (0, 7), (0, 8), (1, 9), (2, 10), (0, 11), (0, 12)] [6, 9] [10] [] (ClsK (OneB (w.heap.size + 1)) w4) (by kernel_rfl) (by kernel_rfl) (by kernel_rfl) rfl rfl (ClsK.of hE0) (fun _ _ _ d _ h => by cases d <;> exact h) ?_; simp only [planL, nL]
  refine pR (v := ?_) rfl (fun W => ?_) ?_; rotate_left; (go_simp <;> with_reducible rfl); simp only [nP]
  refine pX (v := ?_) rfl ?_ ?_; rotate_left; (go_simp <;> with_reducible rfl); simp only [nP]
  refine pM _ rfl rfl ?_; simp only [nP, nE]
  iterate 3 (refine pR (v := ?_) rfl (fun W => ?_) ?_; rotate_left; (go_simp <;> with_reducible rfl); simp only [nP])
  refine pK (v := ?_) rfl (fun W => ?_) ?_; rotate_left; (go_simp <;> with_reducible rfl); simp only [nP]
  refine pM _ rfl rfl ?_; simp only [nP, nE]
  refine pR (v := ?_) rfl (fun W => ?_) ?_; rotate_left; (go_simp <;> with_reducible rfl); simp only [nP]
  refine pK (v := ?_) rfl (fun W => ?_) ?_; rotate_left; (go_simp <;> with_reducible rfl); simp only [nP]
  refine plan_does rfl (fun K hK => ?_)
  go_wp2_with fail
  refine ⟨ClsK.of (by repeat (first | assumption | exact Keeps.refl _ _ | refine Keeps.alloc ?_ _ | refine Keeps.setOne ?_ _ _ | refine Keeps.setCell ?_ _ _ (.inl (by first | rfl | exact .inl rfl | exact .inr rfl | omega)) | refine Keeps.drew ?_)), ?_⟩; try simp only [nP]
  refine pA _ rfl rfl ?_; simp only [nP, nE]
  refine pA _ rfl rfl ?_; simp only [nP, Act.eval]
  refine plan_nil ?_; simp only [tailL, List.filterMap_nil]
  go_wp2_with fail
  clear fM
  clear hE0
  refine nxt HM fun w3 M => ?_
  clear HM; have HM := M; clear M
  obtain ⟨Ahb, hb⟩ := HM.out.get (r := cellsR (w.heap.size + 1) 89 [.slice a3 d.length c3, .int .i64 0]) (by with_reducible repeat first | exact ph | apply pt)
  have hcc := hb.2.reads.1
  clear hb
  refine bodyPost_ret (v := .tuple #[.agg [.slice a3 d.length c3, .int .i64 0].toArray, .string (bs s), .int .i64 0]) (by simp [results, Tryz.results77, go_sem, hcc]) rfl ?_
  clear hcc
  rw [HQ.out]
  exact ⟨⟨_, rfl, RdV.ext ⟨a3, c3, rfl, HB1.out⟩ HM.out.extTo⟩, HM.out.extTo⟩
end Go.Proofs.YtcfgnbbiljohjaaGreatDoor
end
section
/- The document's reader: a truth. Condition: its bytes lie as 'RdV' says. -/
set_option linter.unusedVariables false
set_option linter.unusedSimpArgs false
set_option maxHeartbeats 4000000
set_option maxRecDepth 10000
namespace Go.Proofs.YtcfgnbbiljohjaaGreatDoor
open Go.RowKit
theorem rvtru_any {A : Nat → Prop} (w : World) (r : Rdr) (x : Value) (hl : r.b.length ≤ 70368744177664) (h : RdV A w r x) (hA : ∀ k, A k → k < w.heap.size) :
    Calls Tryz.prog 42 #[x] w fun e w' => (∃ y, e = .returned (.tuple #[y, .bool r.tru.2.1, .int .i64 r.tru.2.2]) ∧ RdV A w' r.tru.1 y) ∧ Ext w w' := by
  obtain ⟨l, e0⟩ := r
  by_cases hr : e0 = 0
  case neg =>
    have hq : Rdr.tru ⟨l, e0⟩ = (⟨l, e0⟩, false, e0) := by unfold Rdr.tru; exact if_pos hr
    have HQ := Lib.hid hq
    obtain ⟨a, c, rfl, hb⟩ := h
    have HB := Lib.hid hb
    have HA := Lib.hid hA
    have HLL := Lib.hid hl
    have HM := Lib.hid (Mem.start0 w)
    clear hb hA hl
    dsimp only at HB ⊢
    have hr' : (e0 == 0) = false := by simpa using hr
    clear hr hq
    go_enter Tryz.func42, Tryz.ntmps42
    have fM := HM.out.fa
    go_wp2_with fail
    all_goals clear fM
    refine nxt HM fun w1 M => ?_
    clear HM; have HM := M; clear M
    have fM := HM.out.fa
    have hE0 : Keeps (OneB (w.heap.size + 1)) w1 w1.drew := (Keeps.refl _ _).drew
    refine wp_region_plan [(3, 0), (0, 1), (1, 2), (2, 3), (0, 4), (0, 5)] [2] [3] [] (ClsK (OneB (w.heap.size + 1)) w1) (by kernel_rfl) (by kernel_rfl) (by kernel_rfl) rfl rfl (ClsK.of hE0) (fun _ _ _ d _ h => by cases d <;> exact h) ?_; simp only [planL, nL]
    refine pX (v := ?_) rfl ?_ ?_; rotate_left; (go_simp <;> with_reducible rfl); simp only [nP]
    refine pR (v := ?_) rfl (fun W => ?_) ?_; rotate_left; (go_simp <;> with_reducible rfl); simp only [nP]
    refine pK (v := ?_) rfl (fun W => ?_) ?_; rotate_left; (go_simp <;> with_reducible rfl); simp only [nP]
    refine plan_does rfl (fun K hK => ?_)
    go_wp2_with fail
    refine ⟨ClsK.of (by repeat (first | assumption | exact Keeps.refl _ _ | refine Keeps.alloc ?_ _ | refine Keeps.setOne ?_ _ _ | refine Keeps.setCell ?_ _ _ (.inl (by first | rfl | exact .inl rfl | exact .inr rfl | omega)) | refine Keeps.drew ?_)), ?_⟩; try simp only [nP]
    refine pA _ rfl rfl ?_; simp only [nP, Act.eval]
    refine pA _ rfl rfl ?_; simp only [nP, nE]
    refine plan_nil ?_; simp only [tailL, List.filterMap_nil]
    go_wp2_with fail
    clear fM
    clear hE0
    refine nxt HM fun w3 M => ?_
    clear HM; have HM := M; clear M
    obtain ⟨Ahb, hb⟩ := HM.out.get (r := cellsR (w.heap.size + 1) 89 [.slice a l.length c, .int .i64 e0]) (by with_reducible repeat first | exact ph | apply pt)
    have hcc := hb.2.reads.1
    clear hb
    refine bodyPost_ret (v := .tuple #[.agg [.slice a l.length c, .int .i64 e0].toArray, .bool false, .int .i64 e0]) (by simp [results, Tryz.results42, go_sem, hcc]) rfl ?_
    clear hcc
    rw [HQ.out]
    exact ⟨⟨_, rfl, RdV.ext ⟨a, c, rfl, HB.out⟩ HM.out.extTo⟩, HM.out.extTo⟩
  subst hr
  cases l with
  | nil =>
    have HQ := Lib.hid (show Rdr.tru ⟨[], 0⟩ = (Rdr.bad, false, 120) from rfl)
    obtain ⟨a, c, rfl, hb⟩ := h
    have HB := Lib.hid hb
    have HA := Lib.hid hA
    have HLL := Lib.hid hl
    have HM := Lib.hid (Mem.start0 w)
    clear hb hA hl
    go_enter Tryz.func42, Tryz.ntmps42
    have fM := HM.out.fa
    go_wp2_with fail
    all_goals clear fM
    refine nxt HM fun w2 M => ?_
    clear HM; have HM := M; clear M
    refine (rfail_any w2 _ 0 ⟨_, _, _, rfl⟩).mono ?_
    rintro e w3 ⟨rfl, hE⟩
    replace HM := Lib.hid (HM.out.ext hE)
    clear hE
    have fM := HM.out.fa
    go_wp2_with fail
    all_goals clear fM
    refine nxt HM fun w3 M => ?_
    clear HM; have HM := M; clear M
    obtain ⟨Ahb, hb⟩ := HM.out.get (r := cellsR (w.heap.size + 1) 89 [.slice none 0 0, .int .i64 120]) (by with_reducible repeat first | exact ph | apply pt)
    have hcc := hb.2.reads.1
    clear hb
    refine bodyPost_ret (v := .tuple #[.agg [.slice none 0 0, .int .i64 120].toArray, .bool false, .int .i64 120]) (by simp [results, Tryz.results42, go_sem, hcc]) rfl ?_
    clear hcc
    rw [HQ.out]
    exact ⟨⟨_, rfl, RdV.bad _ _⟩, HM.out.extTo⟩
  | cons z l =>
    obtain ⟨m, hm⟩ : ∃ m, z :: l = m := ⟨_, rfl⟩
    have hm1 : 1 ≤ m.length := by rw [← hm]; simp
    by_cases hc : z.toNat ≤ 1
    · have hq : Rdr.tru ⟨z :: l, 0⟩ = (⟨l, 0⟩, z.toNat == 1, 0) := by
        unfold Rdr.tru
        exact (if_neg (by simp)).trans (if_pos hc)
      have HQ := Lib.hid hq
      clear hq
      rw [hm] at h hl HQ ⊢
      have HMM := Lib.hid hm
      obtain ⟨a, c, rfl, hb⟩ := h
      have HB := Lib.hid hb
      have HA := Lib.hid hA
      have HLL := Lib.hid hl
      have HM := Lib.hid (Mem.start0 w)
      clear hb hA hl
      dsimp only at HB HLL ⊢
      have hcap := HB.out.cap
      have hsl : ∀ W, (Instr.sliceAt 30 (.slice a m.length c) (some (.int .i64 1)) none none).run Tryz.prog W = .ok (sliced a 1 m.length c 1) W := fun W => slice_l W a m.length c 1 hm1
      have hb1 := HB.out.part 1 m.length hm1 (Nat.le_refl _)
      rw [List.take_length, ← hm] at hb1
      have hb1' : Bytes w A (sliced a 1 (z :: l).length c 1) l := hb1
      rw [hm] at hb1'
      obtain ⟨a3, c3, e3⟩ := part_len (a := a) (i := 1) (j := m.length) (c := c) (s := 1)
      rw [e3] at hsl hb1'
      rw [show m.length - 1 = l.length by rw [← hm]; simp] at hsl hb1'
      have HB1 := Lib.hid hb1'
      obtain ⟨g, o, rfl, hAg, hg, hcl⟩ := HB.out.at 0 hm1
      have hcl' : w.cell? ⟨g, o, none⟩ = some (.int .u8 (z.toNat : Int)) := by subst hm; exact hcl
      have hc1 : ¬ (1 : Int) < (z.toNat : Int) := by omega
      have hcc : ((z.toNat : Int) == 1) = (z.toNat == 1) := by rw [Bool.eq_iff_iff]; simp; omega
      have g1 : (0 : Int) < (m.length : Int) := by omega
      have g0 : ((m.length : Int) == 0) = false := by simpa using (by omega : ¬ (m.length : Int) = 0)
      clear hb1 hb1' hcl e3 hAg hm hcap
      go_enter Tryz.func42, Tryz.ntmps42
      have fM := HM.out.fa
      go_wp2_with fail
      all_goals clear fM
      refine nxt HM fun w1 M => ?_
      clear HM; have HM := M; clear M
      have hgl : w1.cell? ⟨g, o, none⟩ = some (.int .u8 (z.toNat : Int)) := (HM.out.extTo).cell hcl'
      have hgs : g < w1.heap.size := Nat.lt_of_lt_of_le hg HM.out.extTo.size
      have hgn : ¬ g = w.heap.size + 1 := by omega
      have hgn' : ¬ w.heap.size + 1 = g := by omega
      have g3 : 0 < m.length := hm1
      clear hcl' hg
      have fM := HM.out.fa
      have hE0 : Keeps (OneB (w.heap.size + 1)) w1 w1.drew := (Keeps.refl _ _).drew
      refine wp_region_plan [(0, 0), (3, 1), (0, 2), (0, 3), (0, 4), (1, 5), (0, 6), (1, 7), (0, 8), (2, 9), (0, 10), (0, 11)] [5, 7] [9] [] (ClsK (OneB (w.heap.size + 1)) w1) (by kernel_rfl) (by kernel_rfl) (by kernel_rfl) rfl rfl (ClsK.of hE0) (fun _ _ _ d _ h => by cases d <;> exact h) ?_; simp only [planL, nL]
      refine pR (v := ?_) rfl (fun W => ?_) ?_; rotate_left; (go_simp <;> with_reducible rfl); simp only [nP]
      refine pX (v := ?_) rfl ?_ ?_; rotate_left; (go_simp <;> with_reducible rfl); simp only [nP]
      iterate 3 (refine pR (v := ?_) rfl (fun W => ?_) ?_; rotate_left; (go_simp <;> with_reducible rfl); simp only [nP])
      refine pK (v := ?_) rfl (fun W => ?_) ?_; rotate_left; (go_simp <;> with_reducible rfl); simp only [nP]
      refine pR (v := ?_) rfl (fun W => ?_) ?_; rotate_left; (go_simp <;> with_reducible rfl); simp only [nP]
      refine pK (v := ?_) rfl (fun W => ?_) ?_; rotate_left; (go_simp <;> with_reducible rfl); simp only [nP]
      refine pR (v := ?_) rfl (fun W => ?_) ?_; rotate_left; (go_simp <;> with_reducible rfl); simp only [nP]
      refine plan_does rfl (fun K hK => ?_)
      go_wp2_with fail
      refine ⟨ClsK.of (by repeat (first | assumption | exact Keeps.refl _ _ | refine Keeps.alloc ?_ _ | refine Keeps.setOne ?_ _ _ | refine Keeps.setCell ?_ _ _ (.inl (by first | rfl | exact .inl rfl | exact .inr rfl | omega)) | refine Keeps.drew ?_)), ?_⟩; try simp only [nP]
      refine pA _ rfl rfl ?_; simp only [nP, nE]
      refine pA _ rfl rfl ?_; simp only [nP, Act.eval]
      refine plan_nil ?_; simp only [tailL, List.filterMap_nil]
      go_wp2_with fail
      clear fM
      clear hE0 hgl hgs hgn hgn'
      refine nxt HM fun w3 M => ?_
      clear HM; have HM := M; clear M
      obtain ⟨Ahb, hb⟩ := HM.out.get (r := cellsR (w.heap.size + 1) 89 [.slice a3 l.length c3, .int .i64 0]) (by with_reducible repeat first | exact ph | apply pt)
      have hcc := hb.2.reads.1
      clear hb
      refine bodyPost_ret (v := .tuple #[.agg [.slice a3 l.length c3, .int .i64 0].toArray, .bool (z.toNat == 1), .int .i64 0]) (by simp [results, Tryz.results42, go_sem, hcc]) rfl ?_
      clear hcc
      rw [HQ.out]
      exact ⟨⟨_, rfl, RdV.ext ⟨a3, c3, rfl, HB1.out⟩ HM.out.extTo⟩, HM.out.extTo⟩
    · have hq : Rdr.tru ⟨z :: l, 0⟩ = (Rdr.bad, false, 120) := by
        unfold Rdr.tru
        exact (if_neg (by simp)).trans (if_neg hc)
      have HQ := Lib.hid hq
      clear hq
      rw [hm] at h hl HQ ⊢
      have HMM := Lib.hid hm
      obtain ⟨a, c, rfl, hb⟩ := h
      have HB := Lib.hid hb
      have HA := Lib.hid hA
      have HLL := Lib.hid hl
      have HM := Lib.hid (Mem.start0 w)
      clear hb hA hl
      dsimp only at HB HLL ⊢
      obtain ⟨g, o, rfl, hAg, hg, hcl⟩ := HB.out.at 0 hm1
      have hcl' : w.cell? ⟨g, o, none⟩ = some (.int .u8 (z.toNat : Int)) := by subst hm; exact hcl
      have hc1 : (1 : Int) < (z.toNat : Int) := by omega
      have g1 : (0 : Int) < (m.length : Int) := by omega
      have g0 : ((m.length : Int) == 0) = false := by simpa using (by omega : ¬ (m.length : Int) = 0)
      clear hcl hAg hm
      go_enter Tryz.func42, Tryz.ntmps42
      have fM := HM.out.fa
      go_wp2_with fail
      all_goals clear fM
      refine nxt HM fun w2 M => ?_
      clear HM; have HM := M; clear M
      refine (rfail_any w2 _ 0 ⟨_, _, _, rfl⟩).mono ?_
      rintro e w3 ⟨rfl, hE⟩
      replace HM := Lib.hid (HM.out.ext hE)
      clear hE
      have fM := HM.out.fa
      go_wp2_with fail
      all_goals clear fM
      refine nxt HM fun w3 M => ?_
      clear HM; have HM := M; clear M
      obtain ⟨Ahb, hb⟩ := HM.out.get (r := cellsR (w.heap.size + 1) 89 [.slice none 0 0, .int .i64 120]) (by with_reducible repeat first | exact ph | apply pt)
      have hcc := hb.2.reads.1
      clear hb
      refine bodyPost_ret (v := .tuple #[.agg [.slice none 0 0, .int .i64 120].toArray, .bool false, .int .i64 120]) (by simp [results, Tryz.results42, go_sem, hcc]) rfl ?_
      clear hcc
      rw [HQ.out]
      exact ⟨⟨_, rfl, RdV.bad _ _⟩, HM.out.extTo⟩
end Go.Proofs.YtcfgnbbiljohjaaGreatDoor
end
section
/- The signs of a text, byte by byte, as the document counts them, and as the model decodes them. No program is named here. -/
set_option linter.unusedVariables false
set_option linter.unusedSimpArgs false
namespace Go.Proofs.YtcfgnbbiljohjaaGreatDoor
open Go.Lib

/-- the sign with which bytes begin, how many bytes it has; (0, 0): none does -/
def sgn (l : List UInt8) : Nat × Nat := if decodeL l = (65533, 1) then (0, 0) else decodeL l
structure Sg where
  at' : Nat
  size : Nat
  n : Nat
  broken : Bool
def Sg.bad (x : Sg) : Bool := decide (x.n < 32) || (decide (127 ≤ x.n) && decide (x.n ≤ 159))
def signsF (l : List UInt8) : Nat → Nat → List Sg
  | 0, _ => []
  | f + 1, p => if p < l.length then (if (sgn (l.drop p)).2 = 0 then ⟨p, 1, 65533, true⟩ :: signsF l f (p + 1) else ⟨p, (sgn (l.drop p)).2, (sgn (l.drop p)).1, false⟩ :: signsF l f (p + (sgn (l.drop p)).2)) else []
def signsL (l : List UInt8) : List Sg := signsF l l.length 0
def blankB (l : List UInt8) : Bool := l.isEmpty || l.head? == some 32 || l.getLast? == some 32
/-- the number of what is wrong with a text, 0: nothing -/
def chk (l : List UInt8) : Nat := if 200 < l.length then 3 else if (signsL l).any (·.broken) then 130 else if (signsL l).any (·.bad) then 131 else if blankB l then 132 else 0

theorem decodeL_pos (l : List UInt8) : 1 ≤ (decodeL l).2 := by rw [decodeL_N]; exact decodeN_ge1 _ _ _ _ _
theorem sgn_zero (l : List UInt8) : (sgn l).2 = 0 ↔ decodeL l = (65533, 1) := by
  unfold sgn
  constructor
  · intro h
    by_cases h1 : decodeL l = (65533, 1)
    · exact h1
    · rw [if_neg h1] at h
      have := decodeL_pos l
      omega
  · intro h
    rw [if_pos h]
theorem sgn_some {l : List UInt8} (h : (sgn l).2 ≠ 0) : sgn l = decodeL l := by
  unfold sgn at h ⊢
  by_cases h1 : decodeL l = (65533, 1)
  · rw [if_pos h1] at h; exact absurd rfl h
  · rw [if_neg h1]
/-- one step of the signs, by what the model decodes -/
theorem signsF_step (l : List UInt8) (f p : Nat) (h : p < l.length) : signsF l (f + 1) p = ⟨p, (decodeL (l.drop p)).2, (decodeL (l.drop p)).1, decide (decodeL (l.drop p) = (65533, 1))⟩ :: signsF l f (p + (decodeL (l.drop p)).2) := by
  rw [signsF, if_pos h]
  by_cases h1 : decodeL (l.drop p) = (65533, 1)
  · rw [if_pos ((sgn_zero _).2 h1), h1]; rfl
  · have h2 : (sgn (l.drop p)).2 ≠ 0 := fun h => h1 ((sgn_zero _).1 h)
    rw [if_neg h2, sgn_some h2, decide_eq_false h1]
theorem signsF_end (l : List UInt8) (f p : Nat) (h : ¬ p < l.length) : signsF l f p = [] := by
  cases f with
  | zero => rfl
  | succ f => rw [signsF, if_neg h]
theorem signsF_fuel (l : List UInt8) : ∀ (f g p : Nat), l.length ≤ p + f → l.length ≤ p + g → signsF l f p = signsF l g p
  | 0, g, p, hf, hg => by rw [signsF_end l 0 p (by omega), signsF_end l g p (by omega)]
  | f + 1, 0, p, hf, hg => by rw [signsF_end l _ p (by omega), signsF_end l 0 p (by omega)]
  | f + 1, g + 1, p, hf, hg => by
    by_cases h : p < l.length
    · have hw := decodeL_pos (l.drop p)
      rw [signsF_step l f p h, signsF_step l g p h, signsF_fuel l f g _ (by omega) (by omega)]
    · rw [signsF_end l _ p h, signsF_end l _ p h]
/-- a text is valid just if no sign of it is broken -/
theorem valid_signs (l : List UInt8) : ∀ (f p : Nat), l.length ≤ p + f → validD (l.drop p) = !(signsF l f p).any (·.broken)
  | 0, p, h => by
    rw [signsF_end l 0 p (by omega), List.drop_of_length_le (by omega)]; rfl
  | f + 1, p, h => by
    by_cases hp : p < l.length
    · have hne : l.drop p ≠ [] := by
        intro h0
        have := congrArg List.length h0
        rw [List.length_drop] at this
        simp at this; omega
      have hw := decodeL_pos (l.drop p)
      rw [signsF_step l f p hp, validD_step _ hne, List.any_cons, List.drop_drop, Bool.not_or]
      by_cases h1 : decodeL (l.drop p) = (65533, 1)
      · rw [if_pos (by rw [h1]; exact ⟨rfl, rfl⟩), decide_eq_true h1]; rfl
      · rw [if_neg (fun h2 => h1 (Prod.ext h2.1 h2.2)), decide_eq_false h1, valid_signs l f _ (by omega)]; rfl
    · rw [signsF_end l _ p hp, List.drop_of_length_le (by omega)]; rfl
/-- what 'sign' tells, by the ranges of the document -/
theorem sgn_N (l : List UInt8) : sgn l = if decodeN l.length (l.getD 0 0).toNat (l.getD 1 0).toNat (l.getD 2 0).toNat (l.getD 3 0).toNat = (65533, 1) then (0, 0) else decodeN l.length (l.getD 0 0).toNat (l.getD 1 0).toNat (l.getD 2 0).toNat (l.getD 3 0).toNat := by
  unfold sgn
  rw [decodeL_N]
end Go.Proofs.YtcfgnbbiljohjaaGreatDoor
end
section
/- The package variables that the rows list (unicode/utf8's two tables): a world that lays them. No law is named here. -/
set_option linter.unusedVariables false
set_option linter.unusedSimpArgs false
set_option maxRecDepth 100000
namespace Go.Proofs.YtcfgnbbiljohjaaGreatDoor
theorem own : ownKnob Tryz.prog.godebug = none := by kernel_rfl
/-- the settled world, the two variables holding what their initialisers lay -/
noncomputable def laidWorld (os : Os) : World :=
  let w0 := World.holding Tryz.prog os ⟨#[], #[], []⟩
  let put (h : Array Obj) (g : Nat) (cs : Array Value) : Array Obj := h.modify g fun
    | .cells _ t frozen => .cells cs t frozen
    | o => o
  let h1 := put w0.heap 0 (Lib.firstTab.map fun z => Value.int .u8 z).toArray
  let h2 := put h1 1 ((List.range 16).flatMap fun i => [Value.int .u8 (Lib.accLo i), Value.int .u8 (Lib.accHi i)]).toArray
  { w0 with heap := h2 }
def tables : List (String × DataW Unit) := [("unicode/utf8.acceptRanges", Rows.laid_unicode_utf8_acceptRanges), ("unicode/utf8.first", Rows.laid_unicode_utf8_first)]
theorem laid_met (os : Os) (args : Array Value) : laidMet Tryz.prog tables ((laidWorld os).forCall (fun _ _ => 0) ⟨#[], args, []⟩).memory :=
  (LaidIn.of_run (l := tables) [0, 1] 8 (by kernel_rfl) (by kernel_rfl) (by kernel_rfl) (by kernel_rfl)).met
/-- what the condition gives: each variable reads as its datum -/
def Tab (W : World) : Prop := laidMetH Tryz.prog tables W
end Go.Proofs.YtcfgnbbiljohjaaGreatDoor
end
section
/- A map from ints of a kind to values of any type, in the order of its entries: making, store of a new key, look-up. No program's function is named here. -/
set_option linter.unusedVariables false
set_option linter.unusedSimpArgs false
set_option maxRecDepth 100000
set_option maxHeartbeats 400000
namespace Go.Proofs.YtcfgnbbiljohjaaGreatDoor
open Go.RowKit Go.WideMaps Go.ChangeMaps

def I64 (n : Int) : Prop := -9223372036854775808 ≤ n ∧ n ≤ 9223372036854775807
theorem wf_i64 {a : Int} (h : I64 a) : (Lit.int .i64 a).wf = true := by
  unfold I64 at h
  simp [Lit.wf, IntKind.min, IntKind.max, IntKind.signed, IntKind.bits]; omega
theorem i64_lit (n : Int) (h : (decide (-9223372036854775808 ≤ n) && decide (n ≤ 9223372036854775807)) = true) : I64 n := by
  rw [Bool.and_eq_true] at h
  exact ⟨of_decide_eq_true h.1, of_decide_eq_true h.2⟩
/-- the block is a map with these entries, in this order -/
def MapI (w : World) (m : Nat) (D : List (Int × Value)) : Prop :=
  ∃ es clock, w.heap[m]? = some (.map es clock) ∧ Go.MapKept.Stamped es clock ∧ es.toList.map (fun e => (e.key, e.val)) = D.map (fun p => (Value.int .i64 p.1, p.2)) ∧ ∀ p ∈ D, I64 p.1
def lookI (D : List (Int × Value)) (n : Int) (z : Value) : Value × Bool := match D.find? (fun p => p.1 == n) with | some p => (p.2, true) | none => (z, false)
section
variable {P : Program} {w w' : World} {m : Nat} {D : List (Int × Value)} {T K E : TypeId} {n : Int} {v z : Value}
theorem MapI.lt (h : MapI w m D) : m < w.heap.size := let ⟨_, _, h1, _⟩ := h; (Array.getElem?_eq_some_iff.1 h1).1
theorem MapI.keeps {S : Nat → Prop} (h : MapI w m D) (hk : Keeps S w w') (hs : ¬ S m) : MapI w' m D := by
  have hl := h.lt
  obtain ⟨es, c, h1, h2⟩ := h
  exact ⟨es, c, (hk.block m hl hs).trans h1, h2⟩
theorem MapI.ext (h : MapI w m D) (hk : Ext w w') : MapI w' m D := h.keeps hk (noB _)
theorem mapi_new (w : World) : MapI (w.alloc (.map #[] 0)) w.heap.size [] :=
  ⟨#[], 0, World.alloc_heap_new w _, by unfold Go.MapKept.Stamped; simp, rfl, by simp⟩
theorem int_key (hK : P.underlying K = some (.int .i64)) (hn : I64 n) : keyOf P K (.int .i64 n) = some (.int .i64 n) := Go.Maps.keyOf_int_mk hK (wf_i64 hn)
theorem mapi_get {es : List MapEntry} {j : Nat} {e : MapEntry} (h : es.map (fun e => (e.key, e.val)) = D.map (fun p => (Value.int .i64 p.1, p.2))) (he : es[j]? = some e) : ∃ p, D[j]? = some p ∧ e.key = .int .i64 p.1 ∧ e.val = p.2 := by
  have h1 := congrArg (·[j]?) h
  simp only [List.getElem?_map, he, Option.map_some] at h1
  cases hd : D[j]? with
  | none => rw [hd] at h1; simp at h1
  | some p =>
    rw [hd] at h1
    simp at h1
    exact ⟨p, rfl, h1.1, h1.2⟩
theorem mapi_mem {es : List MapEntry} (h : es.map (fun e => (e.key, e.val)) = D.map (fun p => (Value.int .i64 p.1, p.2))) {e : MapEntry} (he : e ∈ es) : ∃ p ∈ D, e.key = .int .i64 p.1 ∧ e.val = p.2 := by
  obtain ⟨j, hj, rfl⟩ := List.getElem_of_mem he
  obtain ⟨p, h1, h2⟩ := mapi_get h (List.getElem?_eq_getElem hj)
  exact ⟨p, List.mem_of_getElem? h1, h2⟩
theorem mapi_find (hK : P.underlying K = some (.int .i64)) {es : List MapEntry} (h : es.map (fun e => (e.key, e.val)) = D.map (fun p => (Value.int .i64 p.1, p.2))) (hD : ∀ p ∈ D, I64 p.1) (hn : I64 n) :
    ((Instr.findKey K (.int .i64 n) es).run P w = .ok none w ∧ ∀ p ∈ D, p.1 ≠ n) ∨ ∃ j p, (Instr.findKey K (.int .i64 n) es).run P w = .ok (some (j, p.2)) w ∧ D[j]? = some p ∧ p.1 = n := by
  have hl := int_key hK hn
  have hkeys : ∀ e ∈ es, ∃ l, keyOf P K e.key = some l := fun e he => by
    obtain ⟨p, hp, hk, _⟩ := mapi_mem h he
    rw [hk]
    exact ⟨_, int_key hK (hD p hp)⟩
  rcases (Go.Maps.int_keyed hK).find w hl es hkeys with ⟨h1, h2⟩ | ⟨j, e, h1, h2, h3⟩
  · refine .inl ⟨h1, fun p hm hp => ?_⟩
    obtain ⟨j, hj, hjd⟩ := List.getElem_of_mem hm
    have hlen : es.length = D.length := by simpa using congrArg List.length h
    obtain ⟨q, hq, hk, _⟩ := mapi_get (D := D) h (List.getElem?_eq_getElem (show j < es.length by omega))
    rw [List.getElem?_eq_getElem hj, hjd] at hq
    cases hq
    exact h2 _ (List.getElem_mem _) (by rw [hk, hp])
  · obtain ⟨p, hp, hk, hv⟩ := mapi_get h h2
    rw [hv] at h1
    refine .inr ⟨j, p, h1, hp, ?_⟩
    rw [h3] at hk
    simpa using hk.symm
/-- a store at a new key -/
theorem MapI.put (h : MapI w m D) (hT : P.underlying T = some (.map K E)) (hK : P.underlying K = some (.int .i64)) (hn : I64 n) (hne : ∀ p ∈ D, p.1 ≠ n) (v : Value) :
    ∃ w', (Instr.mapUpdate T (.map (some m)) (.int .i64 n) v).run P w = .ok () w' ∧ MapI w' m (D ++ [(n, v)]) ∧ Keeps (OneB m) w w' := by
  obtain ⟨es, clock, h1, h2, h3, h4⟩ := h
  have hl := int_key hK hn
  rcases mapi_find (w := w) hK h3 h4 hn with ⟨h5, h6⟩ | ⟨j, p, h5, h6, h7⟩
  · refine ⟨setBlock w m (.map (es.push ⟨.int .i64 n, v, clock⟩) (clock + 1)), by simp [Instr.mapUpdate, run_underlying hT, Go.MapKept.run_getObj_map h1, (Go.Maps.int_keyed hK).check w _ hl, h5, Go.MapKept.run_setObj_map _ h1, Result.andThen, setBlock], ?_, ?_⟩
    · refine ⟨_, _, Go.ChangeMaps.heap_setBlock_same h1 _, Go.MapKept.stamped_push h2 (fun x hx he => ?_), ?_, ?_⟩
      · obtain ⟨p, hp, hk, _⟩ := mapi_mem h3 hx
        rw [hk] at he
        exact hne p hp (by simpa using he)
      · rw [Array.toList_push, List.map_append, h3, List.map_append]; rfl
      · intro p hp
        rcases List.mem_append.1 hp with hp | hp
        · exact h4 p hp
        · obtain rfl := List.mem_singleton.1 hp; exact hn
    · exact ⟨rfl, rfl, rfl, by simp [setBlock], fun i _ hi => Go.ChangeMaps.heap_setBlock_other h1 _ hi⟩
  · exact absurd h7 (hne p (List.mem_of_getElem? h6))
/-- a look-up, by the entries that do (each key stands once) -/
theorem MapI.look (h : MapI w m D) (hT : P.underlying T = some (.map K E)) (hK : P.underlying K = some (.int .i64)) (hz : ∀ w, (zeroValue E).run P w = .ok z w) (hn : I64 n) (hD : D.Pairwise (fun p q => p.1 ≠ q.1)) (ok : Bool) :
    (Instr.lookup T (.map (some m)) (.int .i64 n) ok).run P w = .ok (if ok then .tuple #[(lookI D n z).1, .bool (lookI D n z).2] else (lookI D n z).1) w := by
  obtain ⟨es, clock, h1, h2, h3, h4⟩ := h
  have hl := int_key hK hn
  rcases mapi_find (w := w) hK h3 h4 hn with ⟨h5, h6⟩ | ⟨j, p, h5, h6, h7⟩
  · have hf : lookI D n z = (z, false) := by
      unfold lookI
      rw [List.find?_eq_none.2 fun p hp => by simpa using h6 p hp]
    rw [hf]
    cases ok <;> simp [Instr.lookup, run_underlying hT, Go.MapKept.run_getObj_map h1, (Go.Maps.int_keyed hK).check w _ hl, h5, hz, Result.andThen]
  · have hm := List.mem_of_getElem? h6
    have hf : lookI D n z = (p.2, true) := by
      unfold lookI
      have : D.find? (fun p => p.1 == n) = some p := by
        rw [List.find?_eq_some_iff_getElem]
        obtain ⟨hj, hje⟩ := List.getElem?_eq_some_iff.1 h6
        refine ⟨by simpa using h7, j, hj, hje, fun k hk => ?_⟩
        have := List.pairwise_iff_getElem.1 hD k j (by omega) hj hk
        rw [hje, h7] at this
        simpa using this
      rw [this]
    rw [hf]
    cases ok <;> simp [Instr.lookup, run_underlying hT, Go.MapKept.run_getObj_map h1, (Go.Maps.int_keyed hK).check w _ hl, h5, hz, Result.andThen]
end
end Go.Proofs.YtcfgnbbiljohjaaGreatDoor
end
section
/- May an entry be? acceptor.Right and what it stands on. Condition: of an entry that says something, that text.Check answers as the document's. -/
set_option linter.unusedVariables false
set_option linter.unusedSimpArgs false
set_option maxHeartbeats 400000
set_option maxRecDepth 10000
namespace Go.Proofs.YtcfgnbbiljohjaaGreatDoor
open Go.RowKit

structure En where
  kind : Int
  member : Int
  number : Int
  text : List UInt8
deriving DecidableEq
def En.cells (e : En) : List Value := [.int .i64 e.kind, .int .i64 e.member, .int .i64 e.number, .string (bs e.text)]
def En.v (e : En) : Value := .agg #[.int .i64 e.kind, .int .i64 e.member, .int .i64 e.number, .string (bs e.text)]
def memB (m : Int) : Bool := decide (0 ≤ m) && decide (m < 16)
def aloneB (e : En) : Bool := decide (e = ⟨e.kind, e.member, 0, []⟩)
theorem bs_inj {l l' : List UInt8} (h : bs l = bs l') : l = l' := by
  have := congrArg (fun s : ByteArray => s.data.toList) h
  simpa [bs_data] using this
/-- an entry with nothing but kind and member, and how else: what a comparison asks in turn -/
theorem alone_cases (e : En) : (e.number = 0 ∧ (bs e.text).toList = [] ∧ aloneB e = true) ∨ (e.number = 0 ∧ ¬ (bs e.text).toList = [] ∧ aloneB e = false) ∨ (¬ e.number = 0 ∧ aloneB e = false) := by
  obtain ⟨k, m, n, t⟩ := e
  rw [bs_toList]
  unfold aloneB
  by_cases hn : n = 0
  · by_cases ht : t = []
    · exact .inl ⟨hn, ht, by subst hn ht; simp⟩
    · exact .inr (.inl ⟨hn, ht, by simp [ht]⟩)
  · exact .inr (.inr ⟨hn, by simp [hn]⟩)

theorem acc_all2 (w : World) (b : Nat) (x y : Bool) (hb : Box w b 4 [.bool x, .bool y]) : Calls Tryz.prog 142 #[.slice (some ⟨b, 0, none⟩) 2 2] w fun e w' => e = .returned (.bool (x && y)) ∧ w' = w := by
  have HB := Lib.hid hb
  clear hb
  cases x
  · go_enter Tryz.func142, Tryz.ntmps142
    obtain ⟨cHB, zHB⟩ := HB.out.reads
    have lHB := HB.out.lt
    go_wp2_with fail
    refine wp_loop_rounds 3 ?_
    rw [rounds_succ]
    go_wp2_with fail
    go_ret
    exact ⟨rfl, rfl⟩
  · cases y
    · go_enter Tryz.func142, Tryz.ntmps142
      obtain ⟨cHB, zHB⟩ := HB.out.reads
      have lHB := HB.out.lt
      go_wp2_with fail
      refine wp_loop_rounds 4 ?_
      rw [rounds_succ]
      go_wp2_with fail
      rw [rounds_succ]
      go_wp2_with fail
      go_ret
      exact ⟨rfl, rfl⟩
    · go_enter Tryz.func142, Tryz.ntmps142
      obtain ⟨cHB, zHB⟩ := HB.out.reads
      have lHB := HB.out.lt
      go_wp2_with fail
      refine wp_loop_rounds 4 ?_
      rw [rounds_succ]
      go_wp2_with fail
      rw [rounds_succ]
      go_wp2_with fail
      rw [rounds_succ]
      go_wp2_with fail
      go_ret
      exact ⟨rfl, rfl⟩

theorem right1_any (w : World) (k : Nat) (m : Bool) (e : En) (hk : Box w k 4 [.bool m]) :
    Calls Tryz.prog 141 #[e.v, .pointer (some ⟨k, 0, none⟩)] w fun r w' => r = .returned (.bool (m && aloneB e)) ∧ Ext w w' := by
  have HB := Lib.hid hk
  clear hk
  unfold En.v
  rcases alone_cases e with ⟨h1, h2, h3⟩ | ⟨h1, h2, h3⟩ | ⟨h1, h3⟩
  · rw [h3]
    clear h3
    have HH := Lib.hid (And.intro h1 h2)
    clear h1 h2
    go_enter Tryz.func141, Tryz.ntmps141
    obtain ⟨cHB, zHB⟩ := HB.out.reads
    have lHB := HB.out.lt
    go_wp2_with fail
    have bx0 := (Box.new w 25 [.int .i64 e.kind, .int .i64 e.member, .int .i64 e.number, .string (bs e.text)])
    have ex : Ext w (w.alloc (Obj.cells #[.int .i64 e.kind, .int .i64 e.member, .int .i64 e.number, .string (bs e.text)] 25)) := ((Keeps.refl NoB w).alloc _)
    have sx : (w.alloc (Obj.cells #[.int .i64 e.kind, .int .i64 e.member, .int .i64 e.number, .string (bs e.text)] 25)).heap.size = w.heap.size + 1 := by simp
    generalize (w.alloc (Obj.cells #[.int .i64 e.kind, .int .i64 e.member, .int .i64 e.number, .string (bs e.text)] 25)) = w0 at bx0 ex sx ⊢
    have Sx := Lib.hid sx
    clear sx
    have BX := Lib.hid bx0
    clear cHB zHB lHB
    replace HB := Lib.hid (HB.out.ext ex)
    have HE := Lib.hid ex
    clear bx0 ex
    obtain ⟨cHB, zHB⟩ := HB.out.reads
    have lHB := HB.out.lt
    obtain ⟨cBX, zBX⟩ := BX.out.reads
    have lBX := BX.out.lt
    obtain ⟨h1, h2⟩ := HH.out
    have hE0 : Keeps NoB w0 w0.drew := (Keeps.refl _ _).drew
    refine wp_region_plan [(3, 0), (3, 1), (0, 2), (3, 3), (0, 4), (3, 5), (0, 6), (0, 7)] [] [8, 9, 10] [8, 9, 10] (ClsE w0) (by kernel_rfl) (by kernel_rfl) (by kernel_rfl) rfl rfl (ClsE.of hE0) (fun _ _ _ d _ h => by cases d <;> exact h) ?_; simp only [planL, nL]
    iterate 2 (refine pX (v := ?_) rfl ?_ ?_; rotate_left; (go_simp <;> with_reducible rfl); simp only [nP])
    refine pR (v := ?_) rfl (fun W => ?_) ?_; rotate_left; (go_simp <;> with_reducible rfl); simp only [nP]
    refine pX (v := ?_) rfl ?_ ?_; rotate_left; (go_simp <;> with_reducible rfl); simp only [nP]
    refine pR (v := ?_) rfl (fun W => ?_) ?_; rotate_left; (go_simp <;> with_reducible rfl); simp only [nP]
    refine pX (v := ?_) rfl ?_ ?_; rotate_left; (go_simp <;> with_reducible rfl); simp only [nP]
    iterate 2 (refine pR (v := ?_) rfl (fun W => ?_) ?_; rotate_left; (go_simp <;> with_reducible rfl); simp only [nP])
    refine plan_nil ?_; simp only [tailL, List.filterMap_cons, List.filterMap_nil, nL]; change wpList _ _ _ (_ :: _ :: _ :: []) _ _
    clear cHB zHB lHB cBX zBX lBX
    clear h1 h2
    go_wp2_with fail
    have by0 := (Box.new w0 4 [.bool m, .bool true])
    have ey : Ext w0 (w0.alloc (Obj.cells #[.bool m, .bool true] 4)) := ((Keeps.refl NoB w0).alloc _)
    have sy : (w0.alloc (Obj.cells #[.bool m, .bool true] 4)).heap.size = w0.heap.size + 1 := by simp
    generalize (w0.alloc (Obj.cells #[.bool m, .bool true] 4)) = w1 at by0 ey sy ⊢
    have Sy := Lib.hid sy
    clear sy
    have HE1 := Lib.hid ((HE.out.ext ey).drew)
    refine (acc_all2 w1.drew _ m true by0.drew).mono ?_
    rintro e' w2 ⟨rfl, rfl⟩
    clear ey by0 hE0
    go_wp2_with fail
    go_ret
    exact ⟨by simp, HE1.out⟩
  · rw [h3]
    clear h3
    have HH := Lib.hid (And.intro h1 h2)
    clear h1 h2
    go_enter Tryz.func141, Tryz.ntmps141
    obtain ⟨cHB, zHB⟩ := HB.out.reads
    have lHB := HB.out.lt
    go_wp2_with fail
    have bx0 := (Box.new w 25 [.int .i64 e.kind, .int .i64 e.member, .int .i64 e.number, .string (bs e.text)])
    have ex : Ext w (w.alloc (Obj.cells #[.int .i64 e.kind, .int .i64 e.member, .int .i64 e.number, .string (bs e.text)] 25)) := ((Keeps.refl NoB w).alloc _)
    have sx : (w.alloc (Obj.cells #[.int .i64 e.kind, .int .i64 e.member, .int .i64 e.number, .string (bs e.text)] 25)).heap.size = w.heap.size + 1 := by simp
    generalize (w.alloc (Obj.cells #[.int .i64 e.kind, .int .i64 e.member, .int .i64 e.number, .string (bs e.text)] 25)) = w0 at bx0 ex sx ⊢
    have Sx := Lib.hid sx
    clear sx
    have BX := Lib.hid bx0
    clear cHB zHB lHB
    replace HB := Lib.hid (HB.out.ext ex)
    have HE := Lib.hid ex
    clear bx0 ex
    obtain ⟨cHB, zHB⟩ := HB.out.reads
    have lHB := HB.out.lt
    obtain ⟨cBX, zBX⟩ := BX.out.reads
    have lBX := BX.out.lt
    obtain ⟨h1, h2⟩ := HH.out
    have hE0 : Keeps NoB w0 w0.drew := (Keeps.refl _ _).drew
    refine wp_region_plan [(3, 0), (3, 1), (0, 2), (3, 3), (0, 4), (3, 5), (0, 6), (0, 7)] [] [8, 9, 10] [8, 9, 10] (ClsE w0) (by kernel_rfl) (by kernel_rfl) (by kernel_rfl) rfl rfl (ClsE.of hE0) (fun _ _ _ d _ h => by cases d <;> exact h) ?_; simp only [planL, nL]
    iterate 2 (refine pX (v := ?_) rfl ?_ ?_; rotate_left; (go_simp <;> with_reducible rfl); simp only [nP])
    refine pR (v := ?_) rfl (fun W => ?_) ?_; rotate_left; (go_simp <;> with_reducible rfl); simp only [nP]
    refine pX (v := ?_) rfl ?_ ?_; rotate_left; (go_simp <;> with_reducible rfl); simp only [nP]
    refine pR (v := ?_) rfl (fun W => ?_) ?_; rotate_left; (go_simp <;> with_reducible rfl); simp only [nP]
    refine pX (v := ?_) rfl ?_ ?_; rotate_left; (go_simp <;> with_reducible rfl); simp only [nP]
    iterate 2 (refine pR (v := ?_) rfl (fun W => ?_) ?_; rotate_left; (go_simp <;> with_reducible rfl); simp only [nP])
    refine plan_nil ?_; simp only [tailL, List.filterMap_cons, List.filterMap_nil, nL]; change wpList _ _ _ (_ :: _ :: _ :: []) _ _
    clear cHB zHB lHB cBX zBX lBX
    clear h1 h2
    go_wp2_with fail
    have by0 := (Box.new w0 4 [.bool m, .bool false])
    have ey : Ext w0 (w0.alloc (Obj.cells #[.bool m, .bool false] 4)) := ((Keeps.refl NoB w0).alloc _)
    have sy : (w0.alloc (Obj.cells #[.bool m, .bool false] 4)).heap.size = w0.heap.size + 1 := by simp
    generalize (w0.alloc (Obj.cells #[.bool m, .bool false] 4)) = w1 at by0 ey sy ⊢
    have Sy := Lib.hid sy
    clear sy
    have HE1 := Lib.hid ((HE.out.ext ey).drew)
    refine (acc_all2 w1.drew _ m false by0.drew).mono ?_
    rintro e' w2 ⟨rfl, rfl⟩
    clear ey by0 hE0
    go_wp2_with fail
    go_ret
    exact ⟨by simp, HE1.out⟩
  · rw [h3]
    clear h3
    have HH := Lib.hid (And.intro h1 trivial)
    clear h1
    go_enter Tryz.func141, Tryz.ntmps141
    obtain ⟨cHB, zHB⟩ := HB.out.reads
    have lHB := HB.out.lt
    go_wp2_with fail
    have bx0 := (Box.new w 25 [.int .i64 e.kind, .int .i64 e.member, .int .i64 e.number, .string (bs e.text)])
    have ex : Ext w (w.alloc (Obj.cells #[.int .i64 e.kind, .int .i64 e.member, .int .i64 e.number, .string (bs e.text)] 25)) := ((Keeps.refl NoB w).alloc _)
    have sx : (w.alloc (Obj.cells #[.int .i64 e.kind, .int .i64 e.member, .int .i64 e.number, .string (bs e.text)] 25)).heap.size = w.heap.size + 1 := by simp
    generalize (w.alloc (Obj.cells #[.int .i64 e.kind, .int .i64 e.member, .int .i64 e.number, .string (bs e.text)] 25)) = w0 at bx0 ex sx ⊢
    have Sx := Lib.hid sx
    clear sx
    have BX := Lib.hid bx0
    clear cHB zHB lHB
    replace HB := Lib.hid (HB.out.ext ex)
    have HE := Lib.hid ex
    clear bx0 ex
    obtain ⟨cHB, zHB⟩ := HB.out.reads
    have lHB := HB.out.lt
    obtain ⟨cBX, zBX⟩ := BX.out.reads
    have lBX := BX.out.lt
    obtain ⟨h1, -⟩ := HH.out
    have hE0 : Keeps NoB w0 w0.drew := (Keeps.refl _ _).drew
    refine wp_region_plan [(3, 0), (3, 1), (0, 2), (3, 3), (0, 4), (3, 5), (0, 6), (0, 7)] [] [8, 9, 10] [8, 9, 10] (ClsE w0) (by kernel_rfl) (by kernel_rfl) (by kernel_rfl) rfl rfl (ClsE.of hE0) (fun _ _ _ d _ h => by cases d <;> exact h) ?_; simp only [planL, nL]
    iterate 2 (refine pX (v := ?_) rfl ?_ ?_; rotate_left; (go_simp <;> with_reducible rfl); simp only [nP])
    refine pR (v := ?_) rfl (fun W => ?_) ?_; rotate_left; (go_simp <;> with_reducible rfl); simp only [nP]
    refine pX (v := ?_) rfl ?_ ?_; rotate_left; (go_simp <;> with_reducible rfl); simp only [nP]
    refine pR (v := ?_) rfl (fun W => ?_) ?_; rotate_left; (go_simp <;> with_reducible rfl); simp only [nP]
    refine pX (v := ?_) rfl ?_ ?_; rotate_left; (go_simp <;> with_reducible rfl); simp only [nP]
    iterate 2 (refine pR (v := ?_) rfl (fun W => ?_) ?_; rotate_left; (go_simp <;> with_reducible rfl); simp only [nP])
    refine plan_nil ?_; simp only [tailL, List.filterMap_cons, List.filterMap_nil, nL]; change wpList _ _ _ (_ :: _ :: _ :: []) _ _
    clear cHB zHB lHB cBX zBX lBX
    clear h1
    go_wp2_with fail
    have by0 := (Box.new w0 4 [.bool m, .bool false])
    have ey : Ext w0 (w0.alloc (Obj.cells #[.bool m, .bool false] 4)) := ((Keeps.refl NoB w0).alloc _)
    have sy : (w0.alloc (Obj.cells #[.bool m, .bool false] 4)).heap.size = w0.heap.size + 1 := by simp
    generalize (w0.alloc (Obj.cells #[.bool m, .bool false] 4)) = w1 at by0 ey sy ⊢
    have Sy := Lib.hid sy
    clear sy
    have HE1 := Lib.hid ((HE.out.ext ey).drew)
    refine (acc_all2 w1.drew _ m false by0.drew).mono ?_
    rintro e' w2 ⟨rfl, rfl⟩
    clear ey by0 hE0
    go_wp2_with fail
    go_ret
    exact ⟨by simp, HE1.out⟩
theorem acc_all4 (w : World) (b : Nat) (x y z u : Bool) (hb : Box w b 4 [.bool x, .bool y, .bool z, .bool u]) : Calls Tryz.prog 142 #[.slice (some ⟨b, 0, none⟩) 4 4] w fun e w' => e = .returned (.bool (x && y && z && u)) ∧ w' = w := by
  have HB := Lib.hid hb
  clear hb
  go_enter Tryz.func142, Tryz.ntmps142
  obtain ⟨cHB, zHB⟩ := HB.out.reads
  have lHB := HB.out.lt
  go_wp2_with fail
  refine wp_loop_rounds 6 ?_
  rw [rounds_succ]
  cases x
  · go_wp2_with fail
    go_ret
    exact ⟨by simp, rfl⟩
  go_wp2_with fail
  rw [rounds_succ]
  cases y
  · go_wp2_with fail
    go_ret
    exact ⟨by simp, rfl⟩
  go_wp2_with fail
  rw [rounds_succ]
  cases z
  · go_wp2_with fail
    go_ret
    exact ⟨by simp, rfl⟩
  go_wp2_with fail
  rw [rounds_succ]
  cases u
  · go_wp2_with fail
    go_ret
    exact ⟨by simp, rfl⟩
  go_wp2_with fail
  rw [rounds_succ]
  go_wp2_with fail
  go_ret
  exact ⟨by simp, rfl⟩

def noneB (e : En) : Bool := decide (e = ⟨e.kind, 0, 0, []⟩)
theorem none_cases (e : En) : (e.member = 0 ∧ e.number = 0 ∧ (bs e.text).toList = [] ∧ noneB e = true) ∨ (e.member = 0 ∧ e.number = 0 ∧ ¬ (bs e.text).toList = [] ∧ noneB e = false) ∨ (e.member = 0 ∧ ¬ e.number = 0 ∧ noneB e = false) ∨ (¬ e.member = 0 ∧ noneB e = false) := by
  obtain ⟨k, m, n, t⟩ := e
  rw [bs_toList]
  unfold noneB
  by_cases hm : m = 0
  · by_cases hn : n = 0
    · by_cases ht : t = []
      · exact .inl ⟨hm, hn, ht, by subst hm hn ht; simp⟩
      · exact .inr (.inl ⟨hm, hn, ht, by simp [ht]⟩)
    · exact .inr (.inr (.inl ⟨hm, hn, by simp [hn]⟩))
  · exact .inr (.inr (.inr ⟨hm, by simp [hm]⟩))
theorem right2_any (w : World) (e : En) :
    Calls Tryz.prog 143 #[e.v] w fun r w' => r = .returned (.bool (noneB e)) ∧ Ext w w' := by
  unfold En.v
  go_enter Tryz.func143, Tryz.ntmps143
  go_wp2_with fail
  all_goals
    go_ret
    refine ⟨?_, (Keeps.refl _ _).alloc _⟩
    rcases none_cases e with ⟨h1, h2, h3, h4⟩ | ⟨h1, h2, h3, h4⟩ | ⟨h1, h2, h4⟩ | ⟨h1, h4⟩ <;> rw [h4] <;> first | rfl | (exfalso; simp_all)
def sayB (m : Bool) (e : En) : Bool := m && decide (1 ≤ e.number) && decide (e.number ≤ 2147483647) && (chk e.text == 0)
theorem right3_any (w : World) (k : Nat) (m : Bool) (e : En) (hk : Box w k 4 [.bool m])
    (hC : ∀ w1, Ext w w1 → Calls Tryz.prog 103 #[.string (bs e.text)] w1 fun r w' => r = .returned (.int .i64 (chk e.text : Int)) ∧ Ext w1 w') :
    Calls Tryz.prog 144 #[e.v, .pointer (some ⟨k, 0, none⟩)] w fun r w' => r = .returned (.bool (sayB m e)) ∧ Ext w w' := by
  have HB := Lib.hid hk
  have HC := Lib.hid hC
  clear hk hC
  unfold En.v
  go_enter Tryz.func144, Tryz.ntmps144
  obtain ⟨cHB, zHB⟩ := HB.out.reads
  have lHB := HB.out.lt
  go_wp2_with fail
  have bx0 := (Box.new w 25 [.int .i64 e.kind, .int .i64 e.member, .int .i64 e.number, .string (bs e.text)])
  have ex : Ext w (w.alloc (Obj.cells #[.int .i64 e.kind, .int .i64 e.member, .int .i64 e.number, .string (bs e.text)] 25)) := ((Keeps.refl NoB w).alloc _)
  have sx : (w.alloc (Obj.cells #[.int .i64 e.kind, .int .i64 e.member, .int .i64 e.number, .string (bs e.text)] 25)).heap.size = w.heap.size + 1 := by simp
  generalize (w.alloc (Obj.cells #[.int .i64 e.kind, .int .i64 e.member, .int .i64 e.number, .string (bs e.text)] 25)) = w0 at bx0 ex sx ⊢
  have Sx := Lib.hid sx
  clear sx
  have BX := Lib.hid bx0
  clear cHB zHB lHB
  replace HB := Lib.hid (HB.out.ext ex)
  have HE := Lib.hid ex
  clear bx0 ex
  obtain ⟨cHB, zHB⟩ := HB.out.reads
  have lHB := HB.out.lt
  obtain ⟨cBX, zBX⟩ := BX.out.reads
  have lBX := BX.out.lt
  have hE0 : Keeps NoB w0 w0.drew := (Keeps.refl _ _).drew
  refine wp_region_plan [(1, 0), (0, 1), (1, 2), (0, 3), (0, 4), (1, 5), (0, 6), (0, 7), (3, 8), (2, 9), (0, 10)] [0, 2, 5] [9, 11, 12, 13] [11, 12, 13] (ClsE w0) (by kernel_rfl) (by kernel_rfl) (by kernel_rfl) rfl rfl (ClsE.of hE0) (fun _ _ _ d _ h => by cases d <;> exact h) ?_; simp only [planL, nL]
  refine pL (v := ?_) rfl (fun W => ?_) ?_; rotate_left; (go_simp <;> with_reducible rfl); simp only [nP]
  refine pR (v := ?_) rfl (fun W => ?_) ?_; rotate_left; (go_simp <;> with_reducible rfl); simp only [nP]
  refine pL (v := ?_) rfl (fun W => ?_) ?_; rotate_left; (go_simp <;> with_reducible rfl); simp only [nP]
  iterate 2 (refine pR (v := ?_) rfl (fun W => ?_) ?_; rotate_left; (go_simp <;> with_reducible rfl); simp only [nP])
  refine pL (v := ?_) rfl (fun W => ?_) ?_; rotate_left; (go_simp <;> with_reducible rfl); simp only [nP]
  iterate 2 (refine pR (v := ?_) rfl (fun W => ?_) ?_; rotate_left; (go_simp <;> with_reducible rfl); simp only [nP])
  refine pX (v := ?_) rfl ?_ ?_; rotate_left; (go_simp <;> with_reducible rfl); simp only [nP]
  refine plan_does rfl (fun K hK => ?_)
  go_wp2_with fail
  refine (HC.out _ (HE.out.ext hE0)).mono ?_
  rintro r w2 ⟨rfl, hE2⟩
  have hE02 := hE0.ext hE2
  refine hK _ _ ⟨ClsE.of (by assumption), ?_⟩; clear hK K; try simp only [nP]
  refine pR (v := ?_) rfl (fun W => ?_) ?_; rotate_left; (go_simp <;> with_reducible rfl); simp only [nP]
  refine plan_nil ?_; simp only [tailL, List.filterMap_cons, List.filterMap_nil, nL]; change wpList _ _ _ (_ :: _ :: _ :: []) _ _
  clear cHB zHB lHB cBX zBX lBX
  go_wp2_with fail
  have by0 := (Box.new w2 4 [.bool m, .bool (decide (1 ≤ e.number)), .bool (decide (e.number ≤ 2147483647)), .bool ((chk e.text : Int) == 0)])
  have ey : Ext w2 (w2.alloc (Obj.cells #[.bool m, .bool (decide (1 ≤ e.number)), .bool (decide (e.number ≤ 2147483647)), .bool ((chk e.text : Int) == 0)] 4)) := ((Keeps.refl NoB w2).alloc _)
  have sy : (w2.alloc (Obj.cells #[.bool m, .bool (decide (1 ≤ e.number)), .bool (decide (e.number ≤ 2147483647)), .bool ((chk e.text : Int) == 0)] 4)).heap.size = w2.heap.size + 1 := by simp
  generalize (w2.alloc (Obj.cells #[.bool m, .bool (decide (1 ≤ e.number)), .bool (decide (e.number ≤ 2147483647)), .bool ((chk e.text : Int) == 0)] 4)) = w3 at by0 ey sy ⊢
  have Sy := Lib.hid sy
  clear sy
  have HE3 := Lib.hid ((HE.out.ext hE02).ext ey)
  refine (acc_all4 w3 _ _ _ _ _ by0).mono ?_
  rintro e' w4 ⟨rfl, rfl⟩
  clear ey by0 hE0 hE02 hE2
  have hs : (m && decide (1 ≤ e.number) && decide (e.number ≤ 2147483647) && ((chk e.text : Int) == 0)) = sayB m e := by
    have : ((chk e.text : Int) == 0) = (chk e.text == 0) := by
      rw [Bool.eq_iff_iff]; simp
    rw [this]; rfl
  rw [hs]
  clear hs
  go_wp2_with fail
  go_ret
  exact ⟨by simp, HE3.out⟩
/-- may an entry be? -/
def enB (e : En) : Bool := if e.kind = 1 then noneB e else if e.kind = 2 ∨ e.kind = 3 then memB e.member && aloneB e else if e.kind = 4 then sayB (memB e.member) e else false
def rightD (k : Nat) : List (Int × Value) := [(1, .func (.func 143) #[] #[]), (2, .func (.func 141) #[] #[.pointer (some ⟨k, 0, none⟩)]), (3, .func (.func 141) #[] #[.pointer (some ⟨k, 0, none⟩)]), (4, .func (.func 144) #[] #[.pointer (some ⟨k, 0, none⟩)])]
def nofn : Value := .nilFunc
theorem look_right (k : Nat) (e : En) (z : Value) : (e.kind = 1 ∧ lookI (rightD k) e.kind z = (.func (.func 143) #[] #[], true)) ∨ ((e.kind ≠ 1 ∧ (e.kind = 2 ∨ e.kind = 3)) ∧ lookI (rightD k) e.kind z = (.func (.func 141) #[] #[.pointer (some ⟨k, 0, none⟩)], true)) ∨
    ((e.kind ≠ 1 ∧ ¬ (e.kind = 2 ∨ e.kind = 3) ∧ e.kind = 4) ∧ lookI (rightD k) e.kind z = (.func (.func 144) #[] #[.pointer (some ⟨k, 0, none⟩)], true)) ∨ ((e.kind ≠ 1 ∧ ¬ (e.kind = 2 ∨ e.kind = 3) ∧ e.kind ≠ 4) ∧ lookI (rightD k) e.kind z = (z, false)) := by
  by_cases h1 : e.kind = 1
  · exact .inl ⟨h1, by rw [h1]; rfl⟩
  by_cases h2 : e.kind = 2
  · exact .inr (.inl ⟨⟨h1, .inl h2⟩, by rw [h2]; rfl⟩)
  by_cases h3 : e.kind = 3
  · exact .inr (.inl ⟨⟨h1, .inr h3⟩, by rw [h3]; rfl⟩)
  by_cases h4 : e.kind = 4
  · exact .inr (.inr (.inl ⟨⟨h1, by omega, h4⟩, by rw [h4]; rfl⟩))
  · refine .inr (.inr (.inr ⟨⟨h1, by omega, h4⟩, ?_⟩))
    unfold lookI rightD
    have a1 : ¬ (1 : Int) = e.kind := fun h => h1 h.symm
    have a2 : ¬ (2 : Int) = e.kind := fun h => h2 h.symm
    have a3 : ¬ (3 : Int) = e.kind := fun h => h3 h.symm
    have a4 : ¬ (4 : Int) = e.kind := fun h => h4 h.symm
    simp [a1, a2, a3, a4]
theorem zeroFn (w : World) : (zeroValue 79).run Tryz.prog w = .ok nofn w := by kernel_rfl
theorem right_any (w : World) (e : En) (hI : I64 e.kind)
    (hC : e.kind = 4 → ∀ w1, Ext w w1 → Calls Tryz.prog 103 #[.string (bs e.text)] w1 fun r w' => r = .returned (.int .i64 (chk e.text : Int)) ∧ Ext w1 w') :
    Calls Tryz.prog 118 #[e.v] w fun r w' => r = .returned (.bool (enB e)) ∧ Ext w w' := by
  have HC := Lib.hid hC
  have HI := Lib.hid hI
  clear hC hI
  unfold En.v
  by_cases hm : 0 ≤ e.member
  · have hXM : Hid ((decide (e.member < 16)) = memB e.member) := Lib.hid (by unfold memB; rw [decide_eq_true hm, Bool.true_and])
    go_enter Tryz.func118, Tryz.ntmps118
    go_wp2_with fail
    have bx0 := ((Box.new w 25 [.int .i64 e.kind, .int .i64 e.member, .int .i64 e.number, .string (bs e.text)]).alloc (Obj.cells #[.bool (decide (e.member < 16))] 4))
    have bx1 := (Box.new (w.alloc (Obj.cells #[.int .i64 e.kind, .int .i64 e.member, .int .i64 e.number, .string (bs e.text)] 25)) 4 [.bool (decide (e.member < 16))])
    have ex : Ext w ((w.alloc (Obj.cells #[.int .i64 e.kind, .int .i64 e.member, .int .i64 e.number, .string (bs e.text)] 25)).alloc (Obj.cells #[.bool (decide (e.member < 16))] 4)) := (((Keeps.refl NoB w).alloc _).alloc _)
    have sx : ((w.alloc (Obj.cells #[.int .i64 e.kind, .int .i64 e.member, .int .i64 e.number, .string (bs e.text)] 25)).alloc (Obj.cells #[.bool (decide (e.member < 16))] 4)).heap.size = w.heap.size + 2 := by simp
    simp only [World.size_alloc] at bx1
    generalize ((w.alloc (Obj.cells #[.int .i64 e.kind, .int .i64 e.member, .int .i64 e.number, .string (bs e.text)] 25)).alloc (Obj.cells #[.bool (decide (e.member < 16))] 4)) = w0 at bx0 bx1 ex sx ⊢
    have Sx := Lib.hid sx
    clear sx
    have HX := Lib.hid ex
    have B0 := Lib.hid bx0
    have B1 := Lib.hid bx1
    have hlt := bx1.lt
    clear ex bx0 bx1
    rw [hXM.out] at B1
    obtain ⟨k, hk⟩ : ∃ k, w.heap.size + 1 = k := ⟨_, rfl⟩
    have HKK := Lib.hid hk
    rw [hk]
    clear hk
    have hmm := run_makeMap (P := Tryz.prog) 174 w0
    have put := fun (w : World) (D : List (Int × Value)) (m : Nat) (h : MapI w m D) (n : Int) (hn : I64 n) (hne : ∀ p ∈ D, p.1 ≠ n) (v : Value) => h.put Tryz.underlying174 Tryz.underlying23 hn hne v
    obtain ⟨w1, r1, m1, k1⟩ := put _ _ _ (mapi_new w0) 1 (i64_lit 1 rfl) (by simp) (.func (.func 143) #[] #[])
    obtain ⟨w2, r2, m2, k2⟩ := put _ _ _ m1 2 (i64_lit 2 rfl) (by simp) (.func (.func 141) #[] #[.pointer (some ⟨k, 0, none⟩)])
    obtain ⟨w3, r3, m3, k3⟩ := put _ _ _ m2 3 (i64_lit 3 rfl) (by simp) (.func (.func 141) #[] #[.pointer (some ⟨k, 0, none⟩)])
    obtain ⟨w4, r4, m4, k4⟩ := put _ _ _ m3 4 (i64_lit 4 rfl) (by simp) (.func (.func 144) #[] #[.pointer (some ⟨k, 0, none⟩)])
    have hE4 : Ext w0 w4 := ((Keeps.refl NoB w0).alloc _).then (((k1.trans k2).trans k3).trans k4) fun i hi h => absurd (show i = w0.heap.size from h) (by omega)
    have hlk : (Instr.lookup 174 (.map (some w0.heap.size)) (.int .i64 e.kind) true).run Tryz.prog w4 = .ok (.tuple #[(lookI (rightD k) e.kind nofn).1, .bool (lookI (rightD k) e.kind nofn).2]) w4 :=
      MapI.look (D := rightD k) m4 Tryz.underlying174 Tryz.underlying23 zeroFn HI.out (by unfold rightD; simp) true
    replace B0 := Lib.hid (B0.out.ext hE4)
    replace B1 := Lib.hid (B1.out.ext hE4)
    have HE := Lib.hid (HX.out.ext hE4)
    clear m1 m2 m3 m4 k1 k2 k3 k4 put hE4 hlt
    obtain ⟨cB0, zB0⟩ := B0.out.reads
    have lB0 := B0.out.lt
    rcases look_right k e nofn with ⟨h1, h2⟩ | ⟨h1, h2⟩ | ⟨h1, h2⟩ | ⟨h1, h2⟩
    · rw [h2] at hlk
      have H1 := Lib.hid h1
      clear h1 h2
      go_wp2_with fail
      refine (right2_any _ e).mono ?_
      rintro r w5 ⟨rfl, hE5⟩
      have HE5 := Lib.hid (HE.out.ext hE5)
      clear hE5
      clear cB0 zB0 lB0
      go_wp2_with fail
      go_ret
      exact ⟨by rw [enB, if_pos H1.out]; simp, HE5.out⟩
    · rw [h2] at hlk
      have H1 := Lib.hid h1
      clear h1 h2
      go_wp2_with fail
      refine (right1_any _ k (memB e.member) e (by have h9 := B1.out; rw [HKK.out] at h9; exact h9)).mono ?_
      rintro r w5 ⟨rfl, hE5⟩
      have HE5 := Lib.hid (HE.out.ext hE5)
      clear hE5
      clear cB0 zB0 lB0
      go_wp2_with fail
      go_ret
      exact ⟨by rw [enB, if_neg H1.out.1, if_pos H1.out.2]; simp, HE5.out⟩
    · rw [h2] at hlk
      have H1 := Lib.hid h1
      clear h1 h2
      go_wp2_with fail
      refine (right3_any _ k (memB e.member) e (by have h9 := B1.out; rw [HKK.out] at h9; exact h9) (fun W hW => HC.out H1.out.2.2 W (HE.out.ext hW))).mono ?_
      rintro r w5 ⟨rfl, hE5⟩
      have HE5 := Lib.hid (HE.out.ext hE5)
      clear hE5
      clear cB0 zB0 lB0
      go_wp2_with fail
      go_ret
      exact ⟨by rw [enB, if_neg H1.out.1, if_neg H1.out.2.1, if_pos H1.out.2.2]; simp, HE5.out⟩
    · rw [h2] at hlk
      have H1 := Lib.hid h1
      clear h1 h2
      go_wp2_with fail
      clear cB0 zB0 lB0
      go_ret
      exact ⟨by rw [enB, if_neg H1.out.1, if_neg H1.out.2.1, if_neg H1.out.2.2]; simp, HE.out⟩
  · have hXM : Hid (false = memB e.member) := Lib.hid (by unfold memB; rw [decide_eq_false hm, Bool.false_and])
    have hm2 : e.member < 0 := by omega
    go_enter Tryz.func118, Tryz.ntmps118
    go_wp2_with fail
    have bx0 := ((Box.new w 25 [.int .i64 e.kind, .int .i64 e.member, .int .i64 e.number, .string (bs e.text)]).alloc (Obj.cells #[.bool false] 4))
    have bx1 := (Box.new (w.alloc (Obj.cells #[.int .i64 e.kind, .int .i64 e.member, .int .i64 e.number, .string (bs e.text)] 25)) 4 [.bool false])
    have ex : Ext w ((w.alloc (Obj.cells #[.int .i64 e.kind, .int .i64 e.member, .int .i64 e.number, .string (bs e.text)] 25)).alloc (Obj.cells #[.bool false] 4)) := (((Keeps.refl NoB w).alloc _).alloc _)
    have sx : ((w.alloc (Obj.cells #[.int .i64 e.kind, .int .i64 e.member, .int .i64 e.number, .string (bs e.text)] 25)).alloc (Obj.cells #[.bool false] 4)).heap.size = w.heap.size + 2 := by simp
    simp only [World.size_alloc] at bx1
    generalize ((w.alloc (Obj.cells #[.int .i64 e.kind, .int .i64 e.member, .int .i64 e.number, .string (bs e.text)] 25)).alloc (Obj.cells #[.bool false] 4)) = w0 at bx0 bx1 ex sx ⊢
    have Sx := Lib.hid sx
    clear sx
    have HX := Lib.hid ex
    have B0 := Lib.hid bx0
    have B1 := Lib.hid bx1
    have hlt := bx1.lt
    clear ex bx0 bx1
    rw [hXM.out] at B1
    obtain ⟨k, hk⟩ : ∃ k, w.heap.size + 1 = k := ⟨_, rfl⟩
    have HKK := Lib.hid hk
    rw [hk]
    clear hk
    have hmm := run_makeMap (P := Tryz.prog) 174 w0
    have put := fun (w : World) (D : List (Int × Value)) (m : Nat) (h : MapI w m D) (n : Int) (hn : I64 n) (hne : ∀ p ∈ D, p.1 ≠ n) (v : Value) => h.put Tryz.underlying174 Tryz.underlying23 hn hne v
    obtain ⟨w1, r1, m1, k1⟩ := put _ _ _ (mapi_new w0) 1 (i64_lit 1 rfl) (by simp) (.func (.func 143) #[] #[])
    obtain ⟨w2, r2, m2, k2⟩ := put _ _ _ m1 2 (i64_lit 2 rfl) (by simp) (.func (.func 141) #[] #[.pointer (some ⟨k, 0, none⟩)])
    obtain ⟨w3, r3, m3, k3⟩ := put _ _ _ m2 3 (i64_lit 3 rfl) (by simp) (.func (.func 141) #[] #[.pointer (some ⟨k, 0, none⟩)])
    obtain ⟨w4, r4, m4, k4⟩ := put _ _ _ m3 4 (i64_lit 4 rfl) (by simp) (.func (.func 144) #[] #[.pointer (some ⟨k, 0, none⟩)])
    have hE4 : Ext w0 w4 := ((Keeps.refl NoB w0).alloc _).then (((k1.trans k2).trans k3).trans k4) fun i hi h => absurd (show i = w0.heap.size from h) (by omega)
    have hlk : (Instr.lookup 174 (.map (some w0.heap.size)) (.int .i64 e.kind) true).run Tryz.prog w4 = .ok (.tuple #[(lookI (rightD k) e.kind nofn).1, .bool (lookI (rightD k) e.kind nofn).2]) w4 :=
      MapI.look (D := rightD k) m4 Tryz.underlying174 Tryz.underlying23 zeroFn HI.out (by unfold rightD; simp) true
    replace B0 := Lib.hid (B0.out.ext hE4)
    replace B1 := Lib.hid (B1.out.ext hE4)
    have HE := Lib.hid (HX.out.ext hE4)
    clear m1 m2 m3 m4 k1 k2 k3 k4 put hE4 hlt
    obtain ⟨cB0, zB0⟩ := B0.out.reads
    have lB0 := B0.out.lt
    rcases look_right k e nofn with ⟨h1, h2⟩ | ⟨h1, h2⟩ | ⟨h1, h2⟩ | ⟨h1, h2⟩
    · rw [h2] at hlk
      have H1 := Lib.hid h1
      clear h1 h2
      go_wp2_with fail
      refine (right2_any _ e).mono ?_
      rintro r w5 ⟨rfl, hE5⟩
      have HE5 := Lib.hid (HE.out.ext hE5)
      clear hE5
      clear cB0 zB0 lB0
      go_wp2_with fail
      go_ret
      exact ⟨by rw [enB, if_pos H1.out]; simp, HE5.out⟩
    · rw [h2] at hlk
      have H1 := Lib.hid h1
      clear h1 h2
      go_wp2_with fail
      refine (right1_any _ k (memB e.member) e (by have h9 := B1.out; rw [HKK.out] at h9; exact h9)).mono ?_
      rintro r w5 ⟨rfl, hE5⟩
      have HE5 := Lib.hid (HE.out.ext hE5)
      clear hE5
      clear cB0 zB0 lB0
      go_wp2_with fail
      go_ret
      exact ⟨by rw [enB, if_neg H1.out.1, if_pos H1.out.2]; simp, HE5.out⟩
    · rw [h2] at hlk
      have H1 := Lib.hid h1
      clear h1 h2
      go_wp2_with fail
      refine (right3_any _ k (memB e.member) e (by have h9 := B1.out; rw [HKK.out] at h9; exact h9) (fun W hW => HC.out H1.out.2.2 W (HE.out.ext hW))).mono ?_
      rintro r w5 ⟨rfl, hE5⟩
      have HE5 := Lib.hid (HE.out.ext hE5)
      clear hE5
      clear cB0 zB0 lB0
      go_wp2_with fail
      go_ret
      exact ⟨by rw [enB, if_neg H1.out.1, if_neg H1.out.2.1, if_pos H1.out.2.2]; simp, HE5.out⟩
    · rw [h2] at hlk
      have H1 := Lib.hid h1
      clear h1 h2
      go_wp2_with fail
      clear cB0 zB0 lB0
      go_ret
      exact ⟨by rw [enB, if_neg H1.out.1, if_neg H1.out.2.1, if_neg H1.out.2.2]; simp, HE.out⟩
end Go.Proofs.YtcfgnbbiljohjaaGreatDoor
end
