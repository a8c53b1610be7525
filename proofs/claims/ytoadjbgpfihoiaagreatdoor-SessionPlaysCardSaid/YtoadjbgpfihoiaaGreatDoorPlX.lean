/- Texts WRB, WRC, WRD, WRE, DocRd, one behind the other. Conditions: as each says. -/
import Derived.Test.YtoadjbgpfihoiaaGreatDoorPlT
set_option linter.unusedVariables false
set_option linter.unusedSimpArgs false
set_option maxHeartbeats 8000000
set_option maxRecDepth 100000
namespace Go.Proofs.YtoadjbgpfihoiaaGreatDoor
open Go.RowKit
theorem rnumL_any (w : World) (n : Nat) (hn : n < 9223372036854775808) :
 Calls Tryz.prog 197 #[.int .i64 (n : Int)] w fun e w' => ∃ v', e = .returned v' ∧ Upd NoB w w' (bytR v' (numL n)) := by
 have HM := Hd (Mem.start0 w).bytNil; have HNL := Hd hn; clear hn; go_enter Tryz.func197, Tryz.ntmps197
 go_wp2_with fail; go_loopw [3, 0] (fun x i wr => ∃ (m : Nat) (l1 : List UInt8) (a1 : Option Addr) (c1 : Nat), i = .int .i64 m ∧ x = .slice a1 l1.length c1 ∧ Hid (m < 9223372036854775808) ∧ Hid (numL n = l1 ++ numL m) ∧ Hid (Mem NoB w wr [bytR (.slice a1 l1.length c1) l1])) (fun _ i _ => (intOf i).toNat)
 case atStart => exact ⟨n, [], none, 0, rfl, rfl, HNL, Hd rfl, HM⟩
 case round =>
  clear HM; obtain ⟨m, l1, a1, c1, rfl, rfl, HML, HT, HM⟩ := hrel; have hlen := congrArg List.length HT.out; rw [List.length_append] at hlen; have hl2 := numL_len n; have HL1 := Hd (show l1.length ≤ 10 by omega); clear hlen hl2; by_cases hm : 128 ≤ m
  · have hm' : (128 : Int) ≤ (m : Int) := by omega
    have hst := numL_step HML.out; rw [if_pos hm] at hst; have hb : (128 + (m : Int) % 128) % 256 = 128 + (m : Int) % 128 := by omega
    have HWW := Hd (show wrap64 ((m : Int) / 128) = (m : Int) / 128 from IntWalk.wrap64_in _ (by have := HML.out; omega)); have HT' := Hd (show numL n = (l1 ++ [UInt8.ofNat (m % 128 + 128)]) ++ numL (m / 128) by rw [HT.out, hst, List.append_assoc]; rfl); have HMM := Hd hm; clear hst hm HT; go_wp2_with (at_builtin; refine standing ?_); refine nxt HM fun w1 M => ?_
    replace HM := M; clear M; rw [show (128 + (m : Int) % 128) = (((m % 128 + 128) : Nat) : Int) by first | rfl | omega] at HM; obtain ⟨Ahb, hb⟩ := HM.out.get (r := cellsR wr.heap.size 5 [.int .u8 (((m % 128 + 128) : Nat) : Int)]) pk; replace HM := Hd (HM.out.pick (r := bytR (.slice a1 l1.length c1) l1) pk); obtain ⟨v8, w8, hr, hm9⟩ := Mem.bytAdd 27 HM.out _ _ (one_byte hb.2 (by omega)) (by have := HL1.out; simp; omega); obtain ⟨l2, hl2⟩ : ∃ l2, l1 ++ [UInt8.ofNat (m % 128 + 128)] = l2 := ⟨_, rfl⟩; rw [hl2] at hm9; have HL2 := Hd hl2; obtain ⟨a8, c8, rfl⟩ := hm9.fact (fun A h => bytR.len h); replace HM := Hd hm9; refine ⟨?_⟩; refine wpList_append_ran rfl _ _ hr rfl rfl rfl ?_; clear hr hm9 hb Ahb hl2; replace HM := Hd (Mem.sub HM.out (L' := [bytR (.slice a8 l2.length c8) l2]) sbI); rw [HL2.out] at HT'; go_wp2_with fail; rw [HWW.out]; go_roundw
    case rel => exact ⟨m / 128, l2, a8, c8, by first | go_num | (rw [HWW.out]; go_num), rfl, Hd (by have := HML.out; omega), HT', HM⟩
    case measure =>
     try rw [HWW.out]
     simp [intOf]; omega
  · have hm' : ¬ (128 : Int) ≤ (m : Int) := by omega
    have hst := numL_step HML.out; rw [if_neg hm] at hst; have hb : (m : Int) % 256 = m := by omega
    have HMM := Hd (show m < 128 by omega); rw [hst] at HT; clear hst hm; go_wp2_with (at_builtin; refine standing ?_); refine nxt HM fun w1 M => ?_
    replace HM := M; clear M; rw [show (m : Int) = ((m : Nat) : Int) by first | rfl | omega] at HM; obtain ⟨Ahb, hb⟩ := HM.out.get (r := cellsR wr.heap.size 5 [.int .u8 ((m : Nat) : Int)]) pk; replace HM := Hd (HM.out.pick (r := bytR (.slice a1 l1.length c1) l1) pk); obtain ⟨v8, w8, hr, hm9⟩ := Mem.bytAdd 27 HM.out _ _ (one_byte hb.2 (by have := HMM.out; omega)) (by have := HL1.out; simp; omega); obtain ⟨l2, hl2⟩ : ∃ l2, l1 ++ [UInt8.ofNat m] = l2 := ⟨_, rfl⟩; rw [hl2] at hm9; have HL2 := Hd hl2; obtain ⟨a8, c8, rfl⟩ := hm9.fact (fun A h => bytR.len h); replace HM := Hd hm9; refine ⟨?_⟩; refine wpList_append_ran rfl _ _ hr rfl rfl rfl ?_; clear hr hm9 hb Ahb hl2; replace HM := Hd (Mem.sub HM.out (L' := [bytR (.slice a8 l2.length c8) l2]) sbI); go_wp2_with fail; go_ret; rw [HT.out]; have := HL2.out; exact ⟨_, rfl, by rw [show l1 ++ [UInt8.ofNat m] = l2 from this]; exact HM.out.upd⟩
theorem rtruL_any (w : World) (t : Bool) :
 Calls Tryz.prog 199 #[.bool t] w fun e w' => ∃ v', e = .returned v' ∧ Upd NoB w w' (bytR v' (truL t)) := by
 have HM := Hd (Mem.start0 w); cases t
 all_goals
  go_enter Tryz.func199, Tryz.ntmps199
  go_wp2_with fail; refine nxt HM fun w1 M => ?_
  replace HM := M; clear M; go_ret
 · exact ⟨_, rfl, (Mem.bytMade (l := truL false) HM.out (by decide)).upd⟩
 · exact ⟨_, rfl, (Mem.bytMade (l := truL true) HM.out (by decide)).upd⟩
theorem rtxtL_any (w : World) (s : List UInt8) (hs : s.length ≤ 1048576) :
 Calls Tryz.prog 200 #[.string (bs s)] w fun e w' => ∃ v', e = .returned v' ∧ Upd NoB w w' (bytR v' (txtL s)) := by
 have HM := Hd (Mem.start0 w); have hsz : (bs s).size = s.length := bs_size s; have HSL := Hd hs; go_enter Tryz.func200, Tryz.ntmps200
 go_wp2_with fail; refine (rnumL_any w s.length (by omega)).mono ?_; rintro e w2 ⟨v2, rfl, hU⟩; obtain ⟨l2, hl2⟩ : ∃ l2, numL s.length = l2 := ⟨_, rfl⟩; have HL2 := Hd (show numL s.length = l2 ∧ l2.length ≤ 10 from ⟨hl2, by rw [← hl2]; exact (numL_len _).2⟩); rw [hl2] at hU; obtain ⟨a2, c2, rfl⟩ : ∃ a2 c2, v2 = .slice a2 l2.length c2 := let ⟨_, h, _⟩ := hU; bytR.len h
 obtain ⟨F2, u1, u2, u3⟩ := hU; replace HM := Hd ((Mem.start0 w).new (r := bytR (.slice a2 l2.length c2) l2) (G := F2) u2 u1 (fun k hk => (u3 k hk).elim (fun h => (noB _ h).elim) id)); obtain ⟨v3, w3, hcv, hb3, hE3, hs3⟩ := conv_bytes w2 s; have HB3 := Hd hb3; replace HM := Hd (HM.out.ext hE3); obtain ⟨a3, c3, rfl⟩ := hb3.len; clear u1 u2 u3 F2 hl2 hb3 hE3 hs3; go_wp2_with (at_builtin; refine standing ?_); obtain ⟨v8, w8, hr, hm9⟩ := Mem.bytAdd 27 HM.out _ _ HB3.out (by have := HL2.out; have := HSL.out; omega); replace HM := Hd hm9; refine ⟨?_⟩; refine wpList_append_ran rfl _ _ hr rfl rfl rfl ?_; clear hr hm9; go_wp2_with fail; go_ret; unfold txtL; rw [HL2.out.1]; exact ⟨_, rfl, HM.out.upd⟩
theorem rframe_any {A : Nat → Prop} (w : World) (v : Value) (l : List UInt8) (h : Bytes w A v l) (hl : l.length ≤ 4096) :
 Calls Tryz.prog 145 #[v] w fun e w' => ∃ v', e = .returned v' ∧ Upd NoB w w' (bytR v' (frameL l)) := by
 have HB := Hd h; obtain ⟨a, c, rfl⟩ := h.len; have HLL := Hd hl; clear h; go_enter Tryz.func145, Tryz.ntmps145
 go_wp2_with fail; refine (rseal_any w _ l (by omega) HB.out).mono ?_; rintro e w2 ⟨v2, rfl, hU⟩; obtain ⟨hb2, hE2⟩ := hU.byt; have HB2 := Hd hb2; have HM := Hd ((Mem.start0 w).ext hE2); obtain ⟨a2, c2, rfl⟩ := hb2.len; rw [sealL_len]; rw [sealL_len] at HB2; clear hU hb2 hE2; go_wp2_with fail; rw [show ((l.length : Int) + 4) = ((l.length + 4 : Nat) : Int) from rfl]; refine (rnumL_any w2 (l.length + 4) (by omega)).mono ?_; rintro e w3 ⟨v3, rfl, hU⟩; obtain ⟨l2, hl2⟩ : ∃ l2, numL (l.length + 4) = l2 := ⟨_, rfl⟩; have HL2 := Hd (show numL (l.length + 4) = l2 ∧ l2.length ≤ 10 from ⟨hl2, by rw [← hl2]; exact (numL_len _).2⟩); rw [hl2] at hU; obtain ⟨a3, c3, rfl⟩ : ∃ a2 c2, v3 = .slice a2 l2.length c2 := let ⟨_, h, _⟩ := hU; bytR.len h
 obtain ⟨F2, u1, u2, u3⟩ := hU; replace HM := Hd (HM.out.new (r := bytR (.slice a3 l2.length c3) l2) (G := F2) u2 u1 (fun k hk => (u3 k hk).elim (fun h => (noB _ h).elim) id)); replace HB2 := Hd (HB2.out.ext u2); clear u1 u2 u3 F2 hl2; go_wp2_with (at_builtin; refine standing ?_); obtain ⟨v8, w8, hr, hm9⟩ := Mem.bytAdd 27 HM.out _ _ HB2.out (by rw [sealL_len]; have := HL2.out; omega); replace HM := Hd hm9; refine ⟨?_⟩; refine wpList_append_ran rfl _ _ hr rfl rfl rfl ?_; clear hr hm9; go_wp2_with fail; go_ret; unfold frameL; rw [HL2.out.1]; exact ⟨_, rfl, HM.out.upd⟩
def RdV (A : Nat → Prop) (w : World) (r : Rdr) (x : Value) : Prop := ∃ a c, x = .agg #[.slice a r.b.length c, .int .i64 r.e] ∧ Bytes w A (.slice a r.b.length c) r.b
theorem RdV.ext {A : Nat → Prop} {w w' : World} {r : Rdr} {x : Value} (h : RdV A w r x) (e : Ext w w') : RdV A w' r x := let ⟨a, c, h1, h2⟩ := h; ⟨a, c, h1, h2.ext e⟩
theorem Bytes.swap {A : Nat → Prop} {w0 w w' : World} {v : Value} {l : List UInt8} (h : Bytes w A v l) (hA : ∀ k, A k → k < w0.heap.size) (e : Ext w0 w) (e' : Ext w0 w') : Bytes w' A v l :=
 SlV.mono h (fun _ h => h) fun b o c hb hc => by
  unfold ByteAt at hc ⊢; rw [e.reads.1 b o (hA b hb)] at hc; rw [e'.reads.1 b o (hA b hb)]; exact hc
theorem RdV.swap {A : Nat → Prop} {w0 w w' : World} {r : Rdr} {x : Value} (h : RdV A w r x) (hA : ∀ k, A k → k < w0.heap.size) (e : Ext w0 w) (e' : Ext w0 w') : RdV A w' r x := let ⟨a, c, h1, h2⟩ := h; ⟨a, c, h1, h2.swap hA e e'⟩
theorem RdV.bad (A : Nat → Prop) (w : World) : RdV A w Rdr.bad (.agg #[.slice none 0 0, .int .i64 120]) := ⟨none, 0, rfl, SlV.nil⟩



end Go.Proofs.YtoadjbgpfihoiaaGreatDoor
