/- Texts Read, BackL, SessL, SessT, Does, SA, SB, SB2, SB3, SQ, ST, SN, SvEq, SSame, DS, DT, one behind the other. Conditions: as each says. -/
import Derived.Test.YtoadjbgpfihoiaaGreatDoorFuZB
import Derived.Test.YtoadjbgpfihoiaaGreatDoorFuZC
set_option linter.unusedVariables false
set_option linter.unusedSimpArgs false
set_option maxHeartbeats 8000000
set_option maxRecDepth 100000
namespace Go.Proofs.YtoadjbgpfihoiaaGreatDoor
open Go.RowKit
def readL (b : List UInt8) : Sd × Nat × Int :=
 if (splitL b).2.2 ≠ 0 ∨ (splitL b).2.1 = 0 then (Sd.of 0, 0, (splitL b).2.2) else
 if (parseL (splitL b).1).2 ≠ 0 then (Sd.of 0, 0, (parseL (splitL b).1).2) else ((parseL (splitL b).1).1, (splitL b).2.1, 0)
theorem parse_err (b : List UInt8) (h : (parseL b).2 ≠ 0) : (parseL b).1 = Sd.of 0 := by
 unfold parseL at h ⊢; dsimp only at h ⊢; split at h
 · exact absurd rfl h
 · rename_i hc
   rw [if_neg hc]
theorem readL_n (b : List UInt8) : (readL b).2.1 ≤ b.length := by
 have := splitL_n b; unfold readL; split
 · exact Nat.zero_le _
 · split
   · exact Nat.zero_le _
   · exact this
theorem results_ctt {P : Program} {w : World} {fn : Func} {r s u : Nat} {ty : TypeId} {v : Value} {ad : Addr} (hr : fn.results = #[.cell r ty, .tmp s, .tmp u]) (tmps : Array Value) (h0 : tmps.getD r undef = .pointer (some ad)) (hl : (loadVar ty ad).run P w = .ok v w) :
 (results fn tmps).run P w = .ok (.tuple #[v, tmps.getD s undef, tmps.getD u undef]) w := by
 unfold results; rw [hr]; simp only [List.mapM_toArray, List.mapM_cons, List.mapM_nil]; simp [h0, asAddr, hl, Sem.run_bind, Result.andThen]
theorem fread_any {A : Nat → Prop} (W w : World) (hT : Tabs W) (hE : Ext W w) (v : Value) (l : List UInt8) (h : Bytes w A v l) (hA : ∀ k, A k → k < w.heap.size) (hl : l.length ≤ 1099511627776) :
 Calls Tryz.prog 139 #[v] w fun e w' => e = .returned (.tuple #[(readL l).1.v, .int .i64 ((readL l).2.1 : Int), .int .i64 (readL l).2.2]) ∧ Ext w w' := by
 obtain ⟨a, c, rfl⟩ := h.len; have HM := Hd (Mem.start0 w); have HE := Hd hE; have HB := Hd h; have HA := Hd hA; have HLL := Hd hl; clear hE h hA hl; obtain ⟨Z, hZ⟩ : ∃ Z, readL l = Z := ⟨_, rfl⟩; rw [hZ]; have hRL := hZ; unfold readL at hRL; have HZ := Hd hRL; clear hZ hRL; go_enter Tryz.func139, Tryz.ntmps139
 have fM := HM.out.fa; go_wp2_with fail; all_goals clear fM
 refine nxt HM fun w1 M => ?_
 replace HM := M; clear M; obtain ⟨k0, hk0⟩ : ∃ k, w.heap.size = k := ⟨_, rfl⟩; rw [hk0] at HM ⊢; clear hk0; refine (split_any w1 (.slice a l.length c) l (HB.out.ext HM.out.extTo) (fun k hk => Nat.lt_of_lt_of_le (HA.out k hk) HM.out.extTo.size) HLL.out).mono ?_; rintro e w2 ⟨⟨x, rfl, hx⟩, hE2⟩; have hsb := splitL_b l; obtain ⟨⟨sb, n, no⟩, hs⟩ : ∃ s, splitL l = s := ⟨_, rfl⟩; rw [hs] at hx HZ hsb ⊢; dsimp only at hx HZ hsb ⊢; have HX := Hd hx; have HX2 := Hd hsb; replace HM := Hd (HM.out.ext hE2); have hlt : ∀ k, New w1 w2 k → k < w2.heap.size := fun k hk => hk.2
 have HLT := Hd hlt; clear hx hsb hs hE2 hlt; by_cases h1 : no = 0
 case neg =>
  have HQ := Hd (show Z = (Sd.of 0, 0, no) by rw [← HZ.out, if_pos (.inl h1)]); have d1 : (no != 0) = true := by simpa using h1
  clear h1; have fM := HM.out.fa; go_wp2_with fail; all_goals clear fM
  refine nxt HM fun w9 M => ?_
  replace HM := M; clear M; obtain ⟨Ahb, hb⟩ := HM.out.get (r := cellsR k0 37 [.int .i64 0, .int .i64 0, .int .i64 0, .int .i64 0, .bool false, .string ⟨#[]⟩, .string ⟨#[]⟩, .int .i64 0, .int .i64 0, .int .i64 0, .string ⟨#[]⟩]) (by repeat first | exact ph | apply pt); refine bodyPost_ret (results_ctt Tryz.results139 _ rfl (run_loadVar_row w9 _ _ 37 _ (0, 0) _ hb.2 Tryz.underlying37 rfl (by kernel_rfl))) rfl ?_; exact ⟨by rw [HQ.out]; rfl, HM.out.extTo⟩
 subst h1; by_cases h2 : n = 0
 · have HQ := Hd (show Z = (Sd.of 0, 0, 0) by rw [← HZ.out, if_pos (.inr h2)])
   subst h2; have fM := HM.out.fa; go_wp2_with fail; all_goals clear fM
   refine nxt HM fun w9 M => ?_
   replace HM := M; clear M; obtain ⟨Ahb, hb⟩ := HM.out.get (r := cellsR k0 37 [.int .i64 0, .int .i64 0, .int .i64 0, .int .i64 0, .bool false, .string ⟨#[]⟩, .string ⟨#[]⟩, .int .i64 0, .int .i64 0, .int .i64 0, .string ⟨#[]⟩]) (by repeat first | exact ph | apply pt); refine bodyPost_ret (results_ctt Tryz.results139 _ rfl (run_loadVar_row w9 _ _ 37 _ (0, 0) _ hb.2 Tryz.underlying37 rfl (by kernel_rfl))) rfl ?_; exact ⟨by rw [HQ.out]; rfl, HM.out.extTo⟩
 have hz2 := HZ.out; rw [if_neg (fun h => h.elim (fun h => h rfl) h2)] at hz2; replace HZ := Hd hz2; have d2 : ((n : Int) == 0) = false := by simp; omega
 clear hz2 h2; have fM := HM.out.fa; go_wp2_with fail; all_goals clear fM
 clear d2; refine (parse_any W _ hT (HE.out.ext HM.out.extTo) x sb HX.out (by have := HX2.out; have := HLL.out; omega)).mono ?_; rintro e w3 ⟨rfl, hE3⟩; have hpe := parse_err sb; obtain ⟨⟨s, no⟩, hp⟩ : ∃ p, parseL sb = p := ⟨_, rfl⟩; rw [hp] at HZ hpe ⊢; dsimp only at HZ hpe ⊢; replace HM := Hd (HM.out.ext hE3); clear hE3 hp; by_cases h3 : no = 0
 case neg =>
  have HQ := Hd (show Z = (Sd.of 0, 0, no) by rw [← HZ.out, if_pos h3]); have hs0 := hpe h3; subst hs0; have d3 : (no != 0) = true := by simpa using h3
  clear h3 hpe; rw [show (Sd.of 0).v = .agg #[.int .i64 0, .int .i64 0, .int .i64 0, .int .i64 0, .bool false, .string ⟨#[]⟩, .string ⟨#[]⟩, .int .i64 0, .int .i64 0, .int .i64 0, .string ⟨#[]⟩] from rfl]; have fM := HM.out.fa; go_wp2_with fail; all_goals clear fM
  refine nxt HM fun w9 M => ?_
  replace HM := M; clear M; obtain ⟨Ahb, hb⟩ := HM.out.get (r := cellsR k0 37 [.int .i64 0, .int .i64 0, .int .i64 0, .int .i64 0, .bool false, .string ⟨#[]⟩, .string ⟨#[]⟩, .int .i64 0, .int .i64 0, .int .i64 0, .string ⟨#[]⟩]) (by repeat first | exact ph | apply pt); refine bodyPost_ret (results_ctt Tryz.results139 _ rfl (run_loadVar_row w9 _ _ 37 _ (0, 0) _ hb.2 Tryz.underlying37 rfl (by kernel_rfl))) rfl ?_; exact ⟨by rw [HQ.out]; rfl, HM.out.extTo⟩
 subst h3; have HQ := Hd (show Z = (s, n, 0) by rw [← HZ.out, if_neg (fun h => h rfl)]); clear hpe; unfold Sd.v Sd.cells; have fM := HM.out.fa; go_wp2_with fail; all_goals clear fM
 refine nxt HM fun w9 M => ?_
 replace HM := M; clear M; obtain ⟨Ahb, hb⟩ := HM.out.get (r := cellsR k0 37 [.int .i64 s.kind, .int .i64 s.member, .int .i64 s.number, .int .i64 s.index, .bool s.is, .string (bs s.text), .string (bs s.token), .int .i64 s.e.kind, .int .i64 s.e.member, .int .i64 s.e.number, .string (bs s.e.text)]) (by repeat first | exact ph | apply pt); refine bodyPost_ret (results_ctt Tryz.results139 _ rfl (run_loadVar_row w9 _ _ 37 _ (0, 0) _ hb.2 Tryz.underlying37 rfl (by kernel_rfl))) rfl ?_; exact ⟨by rw [HQ.out]; rfl, HM.out.extTo⟩
theorem docRead_any {A : Nat → Prop} (W w : World) (hT : Tabs W) (hE : Ext W w) (v : Value) (l : List UInt8) (h : Bytes w A v l) (hA : ∀ k, A k → k < w.heap.size) (hl : l.length ≤ 1099511627776) :
 Calls Tryz.prog 44 #[v] w fun e w' => e = .returned (.tuple #[(readL l).1.v, .int .i64 ((readL l).2.1 : Int), .int .i64 (readL l).2.2]) ∧ Ext w w' := by
 obtain ⟨a, c, rfl⟩ := h.len; have HM := Hd (Mem.start0 w); have HE := Hd hE; have HB := Hd h; have HA := Hd hA; have HLL := Hd hl; clear hE h hA hl; obtain ⟨Z, hZ⟩ : ∃ Z, readL l = Z := ⟨_, rfl⟩; rw [hZ]; have hRL := hZ; unfold readL at hRL; have HZ := Hd hRL; clear hZ hRL; go_enter Tryz.func44, Tryz.ntmps44
 have fM := HM.out.fa; go_wp2_with fail; all_goals clear fM
 refine nxt HM fun w1 M => ?_
 replace HM := M; clear M; obtain ⟨k0, hk0⟩ : ∃ k, w.heap.size = k := ⟨_, rfl⟩; rw [hk0] at HM ⊢; clear hk0; refine (rsplit_any w1 (.slice a l.length c) l (HB.out.ext HM.out.extTo) (fun k hk => Nat.lt_of_lt_of_le (HA.out k hk) HM.out.extTo.size) HLL.out).mono ?_; rintro e w2 ⟨⟨x, rfl, hx⟩, hE2⟩; have hsb := splitL_b l; obtain ⟨⟨sb, n, no⟩, hs⟩ : ∃ s, splitL l = s := ⟨_, rfl⟩; rw [hs] at hx HZ hsb ⊢; dsimp only at hx HZ hsb ⊢; have HX := Hd hx; have HX2 := Hd hsb; replace HM := Hd (HM.out.ext hE2); have hlt : ∀ k, New w1 w2 k → k < w2.heap.size := fun k hk => hk.2
 have HLT := Hd hlt; clear hx hsb hs hE2 hlt; by_cases h1 : no = 0
 case neg =>
  have HQ := Hd (show Z = (Sd.of 0, 0, no) by rw [← HZ.out, if_pos (.inl h1)]); have d1 : (no != 0) = true := by simpa using h1
  clear h1; have fM := HM.out.fa; go_wp2_with fail; all_goals clear fM
  refine nxt HM fun w9 M => ?_
  replace HM := M; clear M; obtain ⟨Ahb, hb⟩ := HM.out.get (r := cellsR k0 37 [.int .i64 0, .int .i64 0, .int .i64 0, .int .i64 0, .bool false, .string ⟨#[]⟩, .string ⟨#[]⟩, .int .i64 0, .int .i64 0, .int .i64 0, .string ⟨#[]⟩]) (by repeat first | exact ph | apply pt); refine bodyPost_ret (results_ctt Tryz.results44 _ rfl (run_loadVar_row w9 _ _ 37 _ (0, 0) _ hb.2 Tryz.underlying37 rfl (by kernel_rfl))) rfl ?_; exact ⟨by rw [HQ.out]; rfl, HM.out.extTo⟩
 subst h1; by_cases h2 : n = 0
 · have HQ := Hd (show Z = (Sd.of 0, 0, 0) by rw [← HZ.out, if_pos (.inr h2)])
   subst h2; have fM := HM.out.fa; go_wp2_with fail; all_goals clear fM
   refine nxt HM fun w9 M => ?_
   replace HM := M; clear M; obtain ⟨Ahb, hb⟩ := HM.out.get (r := cellsR k0 37 [.int .i64 0, .int .i64 0, .int .i64 0, .int .i64 0, .bool false, .string ⟨#[]⟩, .string ⟨#[]⟩, .int .i64 0, .int .i64 0, .int .i64 0, .string ⟨#[]⟩]) (by repeat first | exact ph | apply pt); refine bodyPost_ret (results_ctt Tryz.results44 _ rfl (run_loadVar_row w9 _ _ 37 _ (0, 0) _ hb.2 Tryz.underlying37 rfl (by kernel_rfl))) rfl ?_; exact ⟨by rw [HQ.out]; rfl, HM.out.extTo⟩
 have hz2 := HZ.out; rw [if_neg (fun h => h.elim (fun h => h rfl) h2)] at hz2; replace HZ := Hd hz2; have d2 : ((n : Int) == 0) = false := by simp; omega
 clear hz2 h2; have fM := HM.out.fa; go_wp2_with fail; all_goals clear fM
 clear d2; refine (docParse_any W _ hT (HE.out.ext HM.out.extTo) x sb HX.out HLT.out (by have := HX2.out; have := HLL.out; omega)).mono ?_; rintro e w3 ⟨rfl, hE3⟩; have hpe := parse_err sb; obtain ⟨⟨s, no⟩, hp⟩ : ∃ p, parseL sb = p := ⟨_, rfl⟩; rw [hp] at HZ hpe ⊢; dsimp only at HZ hpe ⊢; replace HM := Hd (HM.out.ext hE3); clear hE3 hp; by_cases h3 : no = 0
 case neg =>
  have HQ := Hd (show Z = (Sd.of 0, 0, no) by rw [← HZ.out, if_pos h3]); have hs0 := hpe h3; subst hs0; have d3 : (no != 0) = true := by simpa using h3
  clear h3 hpe; rw [show (Sd.of 0).v = .agg #[.int .i64 0, .int .i64 0, .int .i64 0, .int .i64 0, .bool false, .string ⟨#[]⟩, .string ⟨#[]⟩, .int .i64 0, .int .i64 0, .int .i64 0, .string ⟨#[]⟩] from rfl]; have fM := HM.out.fa; go_wp2_with fail; all_goals clear fM
  refine nxt HM fun w9 M => ?_
  replace HM := M; clear M; obtain ⟨Ahb, hb⟩ := HM.out.get (r := cellsR k0 37 [.int .i64 0, .int .i64 0, .int .i64 0, .int .i64 0, .bool false, .string ⟨#[]⟩, .string ⟨#[]⟩, .int .i64 0, .int .i64 0, .int .i64 0, .string ⟨#[]⟩]) (by repeat first | exact ph | apply pt); refine bodyPost_ret (results_ctt Tryz.results44 _ rfl (run_loadVar_row w9 _ _ 37 _ (0, 0) _ hb.2 Tryz.underlying37 rfl (by kernel_rfl))) rfl ?_; exact ⟨by rw [HQ.out]; rfl, HM.out.extTo⟩
 subst h3; have HQ := Hd (show Z = (s, n, 0) by rw [← HZ.out, if_neg (fun h => h rfl)]); clear hpe; unfold Sd.v Sd.cells; have fM := HM.out.fa; go_wp2_with fail; all_goals clear fM
 refine nxt HM fun w9 M => ?_
 replace HM := M; clear M; obtain ⟨Ahb, hb⟩ := HM.out.get (r := cellsR k0 37 [.int .i64 s.kind, .int .i64 s.member, .int .i64 s.number, .int .i64 s.index, .bool s.is, .string (bs s.text), .string (bs s.token), .int .i64 s.e.kind, .int .i64 s.e.member, .int .i64 s.e.number, .string (bs s.e.text)]) (by repeat first | exact ph | apply pt); refine bodyPost_ret (results_ctt Tryz.results44 _ rfl (run_loadVar_row w9 _ _ 37 _ (0, 0) _ hb.2 Tryz.underlying37 rfl (by kernel_rfl))) rfl ?_; exact ⟨by rw [HQ.out]; rfl, HM.out.extTo⟩
theorem splitL_app {m : List UInt8} (h : m.length ≤ 4096) (r : List UInt8) : splitL (frameL m ++ r) = (m, (frameL m).length, 0) := by
 have h1 := takeL_num (n := m.length + 4) (by unfold topN; omega) (sealL m ++ r); have h2 := numL_len (m.length + 4); have hf : frameL m ++ r = numL (m.length + 4) ++ (sealL m ++ r) := by unfold frameL; rw [List.append_assoc]
 have hd : (frameL m ++ r).drop (numL (m.length + 4)).length = sealL m ++ r := by rw [hf]; exact List.drop_left' rfl
 have ht : (sealL m ++ r).take (m.length + 4) = sealL m := List.take_left' (sealL_len m); unfold splitL; rw [hf, h1, ← hf]; dsimp only
 rw [if_neg (by omega), if_neg (by omega), Int.toNat_natCast, hd, ht, open_seal, if_neg (by
  rw [hf, List.length_append, List.length_append, sealL_len]; omega)]
 dsimp only; unfold frameL; rw [List.length_append, sealL_len]
theorem num_back (n : Nat) (g : Int) (hg : (n : Int) ≤ g) (ht : n ≤ topN) (r : List UInt8) : (⟨numL n ++ r, 0⟩ : Rdr).num g = (⟨r, 0⟩, n, 0) := by
 have h1 := takeL_num ht r; have h2 := numL_len n; unfold Rdr.num; rw [if_neg (by simp), if_neg (by omega)]; dsimp only; rw [h1]; dsimp only; rw [if_pos ⟨by omega, hg⟩, Int.toNat_natCast, List.drop_left' rfl]
theorem txt_back (s : List UInt8) (hs : s.length ≤ 200) (r : List UInt8) : (⟨txtL s ++ r, 0⟩ : Rdr).txt 200 = (⟨r, 0⟩, s, 0) := by
 have h1 : (⟨txtL s ++ r, 0⟩ : Rdr).num 200 = (⟨s ++ r, 0⟩, s.length, 0) := by
  unfold txtL; rw [List.append_assoc]; exact num_back s.length 200 (by omega) (by unfold topN; omega) _
 unfold Rdr.txt; rw [h1]; dsimp only; rw [if_neg (by simp), if_pos (by rw [List.length_append]; omega), List.drop_left' rfl, List.take_left' rfl]
theorem tru_back (b : Bool) (r : List UInt8) : (⟨truL b ++ r, 0⟩ : Rdr).tru = (⟨r, 0⟩, b, 0) := by
 cases b <;> rfl
theorem entry_back (e : En) (x : Sd) (hx : x.e = En0) (hk : e.kind ≠ 1) (h : enB e = true) (s : Sd) (hs : s.e = e) (r : List UInt8) : Part.entry.take ⟨Part.entry.lay s ++ r, 0⟩ x = (⟨r, 0⟩, { x with e := e }) := by
 obtain ⟨⟨k0, k4⟩, ⟨m0, m15⟩, h4⟩ := enB_bounds hk h
 have hne : e.kind ≠ 4 → e.number = 0 ∧ e.text = [] := fun h5 => by
  unfold enB at h; simp [hk, h5] at h; have h6 := h.2.2; unfold aloneB at h6; have h7 := of_decide_eq_true h6; exact ⟨congrArg En.number h7, congrArg En.text h7⟩
 obtain ⟨k, m, n, t⟩ := e; dsimp only at k0 k4 m0 m15 h4 hne; obtain ⟨k, rfl⟩ := Int.eq_ofNat_of_zero_le k0; obtain ⟨m, rfl⟩ := Int.eq_ofNat_of_zero_le m0; unfold Part.take Part.lay; dsimp only; rw [hs]; dsimp only; rw [Int.toNat_natCast, Int.toNat_natCast]; by_cases h5 : (k : Int) = 4
 · obtain ⟨a1, a2, a3⟩ := h4 h5
   obtain ⟨n, rfl⟩ := Int.eq_ofNat_of_zero_le a1; rw [if_pos h5, Int.toNat_natCast]; rw [show numL k ++ numL m ++ (numL n ++ txtL t) ++ r = numL k ++ (numL m ++ (numL n ++ (txtL t ++ r))) by simp]; rw [num_back k 4 (by omega) (by unfold topN; omega)]; dsimp only; rw [num_back m 15 (by omega) (by unfold topN; omega)]; dsimp only; rw [if_pos (by omega), num_back n 2147483647 (by omega) (by unfold topN; omega)]; dsimp only; rw [txt_back t a3]
 · obtain ⟨b1, b2⟩ := hne h5
   subst b1 b2; rw [if_neg h5]; rw [show numL k ++ numL m ++ [] ++ r = numL k ++ (numL m ++ r) by simp]; rw [num_back k 4 (by omega) (by unfold topN; omega)]; dsimp only; rw [num_back m 15 (by omega) (by unfold topN; omega)]; dsimp only; rw [if_neg (by omega), hx]; rfl
theorem take_back (p : Part) (s x : Sd) (hm : p.may s = true) (hb : bndB s = true) (ht : s.text.length ≤ 200 ∨ p ≠ .said) (hx : x.e = En0) (r : List UInt8) : p.take ⟨p.lay s ++ r, 0⟩ x = (⟨r, 0⟩, p.keep s x) := by
 obtain ⟨g1, g2, g3, g4, g5, g6, g7⟩ := (bnd_iff s).1 hb; cases p
 · unfold Part.take Part.lay Part.keep
   dsimp only; rw [num_back s.member.toNat 15 (by omega) (by unfold topN; omega)]; dsimp only; rw [Int.toNat_of_nonneg g1]
 · unfold Part.take Part.lay Part.keep
   dsimp only; rw [num_back s.number.toNat 2147483647 (by omega) (by unfold topN; omega)]; dsimp only; rw [Int.toNat_of_nonneg g3]
 · unfold Part.take Part.lay Part.keep
   dsimp only; rw [num_back s.index.toNat 2147483647 (by omega) (by unfold topN; omega)]; dsimp only; rw [Int.toNat_of_nonneg g5]
 · unfold Part.take Part.lay Part.keep
   dsimp only; rw [tru_back]
 · unfold Part.take Part.lay Part.keep
   dsimp only; rw [txt_back s.text (ht.resolve_right (fun h => h rfl))]
 · unfold Part.take Part.lay Part.keep
   dsimp only; rw [txt_back s.token g7]
 · unfold Part.may at hm
   simp only [Bool.and_eq_true, decide_eq_true_eq] at hm; exact entry_back s.e x hx hm.1 hm.2 s rfl r
theorem Part.keep_e (p : Part) (s x : Sd) (h : p ≠ .entry) : (p.keep s x).e = x.e := by
 cases p <;> first | rfl | exact absurd rfl h
theorem takeAll_back (s : Sd) (hb : bndB s = true) : ∀ (ps : List Part) (x : Sd) (r : List UInt8), (ps.all fun p => p.may s) = true → (ps.map Part.slot).Nodup → (.said ∈ ps → s.text.length ≤ 200) → (.entry ∈ ps → x.e = En0) → x.e = En0 →
 takeAll ps ⟨(ps.map fun p => p.lay s).flatten ++ r, 0⟩ x = (⟨r, 0⟩, ps.foldl (fun x p => p.keep s x) x)
 | [], x, r, _, _, _, _, _ => rfl
 | p :: ps, x, r, hm, hn, ht, he, hx => by
   rw [List.all_cons, Bool.and_eq_true] at hm; rw [List.map_cons, List.nodup_cons] at hn
   rw [takeAll_cons, List.map_cons, List.flatten_cons, List.append_assoc, take_back p s x hm.1 hb (by
    by_cases h : p = .said
    · exact .inl (ht (by rw [h]; exact List.mem_cons_self ..))
    · exact .inr h) hx]
   dsimp only; by_cases hpe : p = .entry
   · have hne : ∀ q ∈ ps, q ≠ .entry := fun q hq e => hn.1 (by rw [hpe, ← e]; exact List.mem_map_of_mem hq)
     exact takeAll_tail s hb ps (p.keep s x) r hm.2 (fun h => ht (List.mem_cons_of_mem _ h)) hne
   · exact takeAll_back s hb ps (p.keep s x) r hm.2 hn.2 (fun h => ht (List.mem_cons_of_mem _ h)) (fun _ => by rw [p.keep_e s x hpe]; exact hx) (by rw [p.keep_e s x hpe]; exact hx)
where
 takeAll_tail (s : Sd) (hb : bndB s = true) : ∀ (ps : List Part) (x : Sd) (r : List UInt8), (ps.all fun p => p.may s) = true → (.said ∈ ps → s.text.length ≤ 200) → (∀ q ∈ ps, q ≠ .entry) →
  takeAll ps ⟨(ps.map fun p => p.lay s).flatten ++ r, 0⟩ x = (⟨r, 0⟩, ps.foldl (fun x p => p.keep s x) x)
  | [], x, r, _, _, _ => rfl
  | p :: ps, x, r, hm, ht, hne => by
    rw [List.all_cons, Bool.and_eq_true] at hm; have hp := hne p (List.mem_cons_self ..)
    have hte : p.take ⟨p.lay s ++ ((ps.map fun p => p.lay s).flatten ++ r), 0⟩ x = (⟨(ps.map fun p => p.lay s).flatten ++ r, 0⟩, p.keep s x) := by
     have h1 := take_back p s { x with e := En0 } hm.1 hb (by
      by_cases h : p = .said
      · exact .inl (ht (by rw [h]; exact List.mem_cons_self ..))
      · exact .inr h) rfl ((ps.map fun p => p.lay s).flatten ++ r)
     cases p <;> first | exact absurd rfl hp | (unfold Part.take Part.keep at h1 ⊢; dsimp only at h1 ⊢; simp only [Prod.mk.injEq, Sd.mk.injEq, true_and, and_true] at h1 ⊢; exact h1)
    rw [takeAll_cons, List.map_cons, List.flatten_cons, List.append_assoc, hte]; exact takeAll_tail s hb ps (p.keep s x) r hm.2 (fun h => ht (List.mem_cons_of_mem _ h)) (fun q hq => hne q (List.mem_cons_of_mem _ hq))
theorem parse_body (s : Sd) (h : sdB s = true) : parseL (bodyL s) = (s, 0) := by
 have h0 := h; rw [← right_eq] at h0; simp only [Bool.and_eq_true, decide_eq_true_eq] at h0; obtain ⟨⟨⟨hk, hlone⟩, hbd⟩, hown⟩ := h0
 obtain ⟨ps, hps, hall⟩ : ∃ ps, partsOf s.kind = some ps ∧ (ps.all fun p => p.may s) = true := by
  unfold sdB at h; split at h
  · cases h
  · rename_i ps hps
    rw [Bool.and_eq_true] at h; exact ⟨ps, hps, h.2⟩
 have hnd := partsOf_nodup s.kind; rw [hps] at hnd
 have ht : .said ∈ ps → s.text.length ≤ 200 := fun hmem => by
  have := List.all_eq_true.1 hall _ hmem; unfold Part.may at this; exact chk_200 (by simpa using this)
 have hkn : ((s.kind.toNat : Nat) : Int) = s.kind := Int.toNat_of_nonneg (by omega); have hnum := num_back s.kind.toNat 12 (by omega) (by unfold topN; omega) ((ps.map fun p => p.lay s).flatten); have htk := takeAll_back s hbd ps (Sd.of s.kind) [] hall hnd ht (fun _ => rfl) rfl; rw [List.append_nil] at htk
 have hlo : ps.foldl (fun x p => p.keep s x) (Sd.of s.kind) = s := by
  conv => rhs; rw [hlone]
  unfold loneS; rw [hps]; rfl
 rw [hlo] at htk; have hbo : bodyL s = numL s.kind.toNat ++ (ps.map fun p => p.lay s).flatten := by unfold bodyL; rw [hps]; rfl
 unfold parseL; rw [hbo, hnum]; dsimp only; rw [hkn, hps, Option.getD_some, htk]; rw [if_pos ⟨rfl, rfl, rfl, h⟩]
theorem readL_app (s : Sd) (h : sdB s = true) (r : List UInt8) : readL (frameL (bodyL s) ++ r) = (s, (frameL (bodyL s)).length, 0) := by
 have hb := body_len s h; have h1 := splitL_app (m := bodyL s) (by omega) r
 have h2 : (frameL (bodyL s)).length ≠ 0 := by
  have := numL_len ((bodyL s).length + 4); unfold frameL; rw [List.length_append]; omega
 unfold readL; rw [h1]; dsimp only; rw [if_neg (fun g => g.elim (fun g => g rfl) h2), parse_body s h, if_neg (fun g => g rfl)]
end Go.Proofs.YtoadjbgpfihoiaaGreatDoor
section
namespace Go.Proofs.YtoadjbgpfihoiaaGreatDoor
open Go.RowKit
structure Ss where
 member : Int
 number : Int
 next : Int
 sent : Int
 acked : Int
 heard : Int
 live : Bool
 closed : Bool
 wait : Int
 ring : AR
 bye : Option (List UInt8)
def farN : Int := 4611686018427387904
def byeS (n : Int) : Sd := { Sd.of 12 with number := n }
abbrev rawS (s : Sd) : List UInt8 := frameL (bodyL s)
def newOk (member number fr most wait now : Int) : Bool :=
 decide (1 ≤ most ∧ most ≤ 64) && decide (0 ≤ member ∧ member ≤ 15) && decide (0 ≤ number ∧ number ≤ 2147483647) && decide (0 ≤ fr ∧ fr ≤ 2147483647) && decide (1 ≤ wait ∧ wait ≤ 1000000) && decide (0 ≤ now ∧ now ≤ farN)
abbrev newS (member number fr : Int) (most : Nat) (wait now : Int) : Ss := ⟨member, number, fr, fr, fr, now, false, false, wait, ⟨most, 0, []⟩, none⟩
namespace Ss
def keyS (x : Sd) : Int := x.member + if x.kind = 11 then 16 else 0
def besOk (x : Sd) : Bool := (decide (x.kind = 10) || decide (x.kind = 11)) && sdB x
def beside (s : Ss) (x : Sd) : Ss × Int × Int :=
 if besOk x = false then (s, 0, 2) else if s.closed = true then (s, 0, 360)
 else ({ s with ring := (s.ring.put ⟨true, keyS x, rawS x⟩).1 }, ((s.ring.put ⟨true, keyS x, rawS x⟩).2.1 : Nat), 0)
def waits (s : Ss) : Bool := match s.ring.items with
 | [] => false
 | x :: _ => !x.side && decide (s.sent - s.acked ≥ (s.ring.most : Int))
def take (s : Ss) : Ss × Option (List UInt8) :=
 if s.closed = true then ({ s with bye := none }, s.bye) else if s.waits = true then (s, none)
 else match s.ring.items with
  | [] => (s, none)
  | x :: r => ({ s with ring := { s.ring with items := r }, sent := s.sent + if x.side then 0 else 1 }, some x.bytes)
def hear (s : Ss) (now : Int) : Ss × Int :=
 if ¬ (s.heard ≤ now ∧ now ≤ farN) then (s, 2) else if s.closed = true then (s, 360) else ({ s with heard := now }, 0)
def close (s : Ss) (why : Int) : Ss × Int :=
 if ¬ (0 ≤ why ∧ why ≤ 2147483647) then (s, 2) else if s.closed = true then (s, 360)
 else ({ s with closed := true, live := false, ring := { s.ring with items := [] }, bye := some (rawS (byeS why)) }, 0)
def queued (s : Ss) : Int := if s.bye.isSome then 1 else (s.ring.items.length : Int)
abbrev cells (s : Ss) : List Value := [.int .i64 s.member, .int .i64 s.number, .int .i64 s.next, .int .i64 s.sent, .int .i64 s.acked, .int .i64 s.heard, .bool s.live, .bool s.closed, .int .i64 0]
abbrev state (s : Ss) : List Value := [.int .i64 s.member, .int .i64 s.number, .int .i64 s.next, .int .i64 s.sent, .int .i64 s.acked, .int .i64 s.heard, .bool s.live, .bool s.closed, .int .i64 s.queued]
end Ss
open Ss
structure OkSs (s : Ss) (k : Nat) : Prop where
 mem : 0 ≤ s.member ∧ s.member ≤ 15
 num : 0 ≤ s.number ∧ s.number ≤ 2147483647
 ack0 : 0 ≤ s.acked
 sent0 : s.acked ≤ s.sent
 next0 : s.sent + (mains s.ring.items : Nat) ≤ s.next
 next1 : s.next ≤ 2147483648
 heard : 0 ≤ s.heard ∧ s.heard ≤ farN
 wait : 1 ≤ s.wait ∧ s.wait ≤ 1000000
 most : 1 ≤ s.ring.most ∧ s.ring.most ≤ 64
 len : s.ring.items.length ≤ s.ring.most
 lost : s.ring.lost ≤ k
 its : ∀ x ∈ s.ring.items, x.bytes.length ≤ 484
 bye : s.closed = false → s.bye = none
 byeL : ∀ b, s.bye = some b → b.length ≤ 484 ∧ b ≠ []
 empty : s.closed = true → s.ring.items = []
theorem frame_pos (l : List UInt8) : frameL l ≠ [] := by
 unfold frameL; intro h; have h1 := congrArg List.length h; have h2 := sealL_len l; rw [List.length_append, List.length_nil] at h1; omega
theorem raw_len (x : Sd) (h : sdB x = true) : (rawS x).length ≤ 484 := frame_len (body_len x h)
theorem sd_bye (n : Int) (h : 0 ≤ n ∧ n ≤ 2147483647) : sdB (byeS n) = true := by
 have h1 : (byeS n).kind = 12 := rfl; unfold sdB; rw [h1]; simp only [partsOf]; simp [Part.clear, Part.may, byeS, Sd.of, h.1, h.2]
section
variable {s : Ss} {k : Nat}
theorem OkSs.put (h : OkSs s k) (x : It) (hx : x.bytes.length ≤ 484) : PutMain s.ring x (s.ring.put x) := put_main s.ring x h.len (by omega)
theorem put_len (R : AR) (x : It) (h : R.items.length ≤ R.most) : (R.put x).1.items.length ≤ R.most := by
 unfold AR.put; split
 · exact h
 · split
   · exact h
   · cases hf : R.items.findIdx? (p33 x) with
     | some i => dsimp only; rw [List.length_set]; exact h
     | none =>
       dsimp only; split
       · dsimp only; rw [List.length_append, List.length_singleton]; omega
       · cases hg : R.items.findIdx? p34 with
         | some i =>
           obtain ⟨hi, -⟩ := findIdx_at hg; dsimp only; rw [List.length_append, List.length_eraseIdx, if_pos hi, List.length_singleton]; omega
         | none =>
           dsimp only; split
           · exact h
           · exact h
theorem OkSs.mono (h : OkSs s k) {k' : Nat} (hk : k ≤ k') : OkSs s k' := { h with lost := Nat.le_trans h.lost hk }
theorem OkSs.putOk (h : OkSs s k) (x : It) (hx : x.bytes.length ≤ 484) (hc : s.closed = false) (next : Int) (hn : next ≤ 2147483648) (hm : s.sent + (mains (s.ring.put x).1.items : Nat) ≤ next) : OkSs { s with ring := (s.ring.put x).1, next := next } (k + 1) :=
 let p := h.put x hx
 ⟨h.mem, h.num, h.ack0, h.sent0, hm, hn, h.heard, h.wait, by rw [show ({ s with ring := (s.ring.put x).1, next := next } : Ss).ring.most = s.ring.most from p.most]; exact h.most,
  by show (s.ring.put x).1.items.length ≤ (s.ring.put x).1.most; rw [p.most]; exact put_len _ _ h.len, Nat.le_trans p.lost (Nat.succ_le_succ h.lost), fun y hy => (p.sub y hy).elim (h.its y) fun e => e ▸ hx, h.bye, h.byeL,
  fun h' => by rw [show s.closed = true from h'] at hc; cases hc⟩
theorem ms_mains {a b : List It} (h : ms a = ms b) : mains a = mains b := by rw [← ms_length, ← ms_length, h]
theorem OkSs.beside (h : OkSs s k) (x : Sd) : OkSs (s.beside x).1 (k + 1) := by
 unfold Ss.beside; split
 · exact h.mono (Nat.le_succ _)
 · rename_i hb
   have hb : besOk x = true := by simpa using hb
   have hsd : sdB x = true := by unfold besOk at hb; simp only [Bool.and_eq_true] at hb; exact hb.2
   split
   · exact h.mono (Nat.le_succ _)
   · rename_i hc
     have hc : s.closed = false := by simpa using hc
     have hl := raw_len _ hsd; have hpm := h.put ⟨true, keyS x, rawS x⟩ hl; refine h.putOk _ hl hc s.next h.next1 ?_; rw [ms_mains (hpm.other (fun h => by cases h.1))]; exact h.next0
theorem OkSs.take (h : OkSs s k) : OkSs s.take.1 k := by
 unfold Ss.take; split
 · rename_i hc
   exact { h with bye := (fun _ => rfl), byeL := (fun b hb => by cases hb) }
 · rename_i hc
   have hc : s.closed = false := by simpa using hc
   split
   · exact h
   · rename_i hw
     split
     · exact h
     · rename_i x r hxr
       have h0 := h.next0
       have hm : mains s.ring.items = (if x.side then 0 else 1) + mains r := by
        rw [hxr]; unfold mains; cases hs : x.side <;> simp [hs]
        omega
       have hle : s.sent + (if x.side = true then (0 : Int) else 1) + (mains r : Nat) ≤ s.next := by
        rw [hm] at h0; cases hs : x.side <;> simp [hs] at h0 ⊢ <;> omega
       refine { h with sent0 := ?_, next0 := hle, len := ?_, its := (fun y hy => h.its y (by rw [hxr]; exact List.mem_cons_of_mem _ hy)), empty := (fun h' => by rw [show s.closed = true from h'] at hc; cases hc) }
       · have := h.sent0
         show s.acked ≤ s.sent + (if x.side = true then 0 else 1)
         cases hs : x.side <;> simp <;> omega
       · have := h.len
         rw [hxr] at this; simp at this; show r.length ≤ s.ring.most
         omega
theorem OkSs.hear (h : OkSs s k) (now : Int) : OkSs (s.hear now).1 k := by
 unfold Ss.hear; split
 · exact h
 · rename_i hn
   have hn := Classical.not_not.1 hn; split
   · exact h
   · exact { h with heard := ⟨Int.le_trans h.heard.1 hn.1, hn.2⟩ }
theorem OkSs.close (h : OkSs s k) (why : Int) : OkSs (s.close why).1 k := by
 unfold Ss.close; split
 · exact h
 · rename_i hn
   have hn := Classical.not_not.1 hn; split
   · exact h
   · have h0 := h.next0
     exact { h with next0 := (by show s.sent + (mains [] : Nat) ≤ s.next; simp [mains]; omega), len := Nat.zero_le _, its := (fun x hx => by cases hx), bye := (fun h' => by cases h'), byeL := (fun b hb => by cases hb; exact ⟨raw_len _ (sd_bye why hn), frame_pos _⟩), empty := fun _ => rfl }
end
end Go.Proofs.YtoadjbgpfihoiaaGreatDoor
end
namespace Go.Proofs.YtoadjbgpfihoiaaGreatDoor
open Go.RowKit
section
open Ss
structure Lw (s : Ss) (fr : Int) (off : List En) : Prop where
 fr0 : 0 ≤ fr ∧ fr ≤ s.sent
 offN : s.next = fr + (off.length : Int)
 eq : s.closed = false → s.sent + (mains s.ring.items : Nat) = s.next
 most : s.sent - s.acked ≤ (s.ring.most : Int)
 its : ∀ x ∈ s.ring.items, ∃ y, sdB y = true ∧ x.bytes = rawS y ∧ (x.side = true → y.kind ≠ 9)
 ln : ∃ l : List Sd, ms s.ring.items = l.map rawS ∧ ∀ j (hj : j < l.length), sdB l[j] = true ∧ l[j].kind = 9 ∧ l[j].index = s.sent + (j : Int) ∧ off[(s.sent - fr).toNat + j]? = some l[j].e
 bye : ∀ b, s.bye = some b → ∃ y, sdB y = true ∧ b = rawS y ∧ y.kind ≠ 9
section
variable {s : Ss} {k : Nat} {fr : Int} {off : List En}
theorem Lw.new {member number fr most wait now : Int} (h : newOk member number fr most wait now = true) : Lw (newS member number fr most.toNat wait now) fr [] := by
 unfold newOk at h; simp only [Bool.and_eq_true, decide_eq_true_eq] at h; obtain ⟨⟨⟨⟨⟨h1, h2⟩, h3⟩, h4⟩, h5⟩, h6⟩ := h; refine ⟨⟨h4.1, Int.le_refl _⟩, by simp [newS], fun _ => by simp [newS, mains], by simp [newS]; omega, fun x hx => by simp [newS] at hx, ⟨[], by simp [newS, ms], fun j hj => by simp at hj⟩, fun b hb => by cases hb⟩
theorem Lw.putSide (h : Lw s fr off) (hk : OkSs s k) (x : It) (y : Sd) (hx : x.side = true) (hy : sdB y = true) (hb : x.bytes = rawS y) (h9 : y.kind ≠ 9) : Lw { s with ring := (s.ring.put x).1 } fr off := by
 have hl : x.bytes.length ≤ 484 := by rw [hb]; exact raw_len _ hy
 have hp := hk.put x hl; have hm := hp.other (fun h => by rw [hx] at h; cases h.1); refine { h with eq := fun hc => ?_, most := ?_, its := fun z hz => ?_, ln := ?_ }
 · show s.sent + (mains (s.ring.put x).1.items : Nat) = s.next
   rw [ms_mains hm]; exact h.eq hc
 · show s.sent - s.acked ≤ ((s.ring.put x).1.most : Int)
   rw [hp.most]; exact h.most
 · rcases hp.sub z hz with h' | rfl
   · exact h.its z h'
   · exact ⟨y, hy, hb, fun _ => h9⟩
 · show ∃ l : List Sd, ms (s.ring.put x).1.items = l.map rawS ∧ _
   rw [hm]; exact h.ln
theorem Lw.beside (h : Lw s fr off) (hk : OkSs s k) (x : Sd) : Lw (s.beside x).1 fr off := by
 unfold Ss.beside; split
 · exact h
 · rename_i hb
   have hb : besOk x = true := by simpa using hb
   unfold besOk at hb; simp only [Bool.and_eq_true, Bool.or_eq_true, decide_eq_true_eq] at hb; split
   · exact h
   · exact h.putSide hk _ x rfl hb.2 rfl (by have := hb.1; omega)
theorem Lw.hear (h : Lw s fr off) (now : Int) : Lw (s.hear now).1 fr off := by
 unfold Ss.hear; split
 · exact h
 · split
   · exact h
   · exact { h with }
theorem Lw.close (h : Lw s fr off) (why : Int) : Lw (s.close why).1 fr off := by
 unfold Ss.close; split
 · exact h
 · rename_i hn
   have hn := Classical.not_not.1 hn; split
   · exact h
   · exact { h with eq := (fun h' => by cases h'), its := (fun x hx => by cases hx), ln := ⟨[], rfl, fun j hj => by simp at hj⟩, bye := fun b hb => by cases hb; exact ⟨_, sd_bye why hn, rfl, (by show (12 : Int) ≠ 9; decide)⟩ }
theorem Lw.take (h : Lw s fr off) (b : List UInt8) (hb : s.take.2 = some b) : ∃ y, sdB y = true ∧ b = rawS y ∧ Lw s.take.1 fr off ∧
 ((y.kind ≠ 9 ∧ s.take.1.sent = s.sent) ∨ (y.kind = 9 ∧ y.index = s.sent ∧ off[(s.sent - fr).toNat]? = some y.e ∧ s.take.1.sent = s.sent + 1)) := by
 unfold Ss.take at hb ⊢; by_cases hc : s.closed = true
 · rw [if_pos hc] at hb ⊢
   obtain ⟨y, h1, h2, h3⟩ := h.bye b hb; exact ⟨y, h1, h2, { h with bye := fun b hb => by cases hb }, .inl ⟨h3, rfl⟩⟩
 · rw [if_neg hc] at hb ⊢
   have hc : s.closed = false := by simpa using hc
   by_cases hw : s.waits = true
   · rw [if_pos hw] at hb; cases hb
   · rw [if_neg hw] at hb ⊢
     cases hi : s.ring.items with
     | nil => rw [hi] at hb; cases hb
     | cons x r =>
       rw [hi] at hb; dsimp only at hb ⊢; obtain rfl := Option.some.inj hb; obtain ⟨y, y1, y2, y3⟩ := h.its x (by rw [hi]; exact List.mem_cons_self ..); obtain ⟨l, l1, l2⟩ := h.ln; have heq := h.eq hc; have hfr := h.fr0; have hits : ∀ z ∈ r, ∃ y, sdB y = true ∧ z.bytes = rawS y ∧ (z.side = true → y.kind ≠ 9) := fun z hz => h.its z (by rw [hi]; exact List.mem_cons_of_mem _ hz)
       cases hs : x.side with
       | true =>
         have hm : ms s.ring.items = ms r := by rw [hi]; exact ms_side _ _ hs
         refine ⟨y, y1, y2, ⟨?_, h.offN, fun _ => ?_, ?_, hits, ⟨l, ?_, ?_⟩, h.bye⟩, .inl ⟨y3 hs, by simp⟩⟩
         · simpa using hfr
         · have := ms_mains hm
           show s.sent + (if true = true then 0 else 1) + (mains r : Nat) = s.next
           rw [if_pos rfl]; omega
         · simpa using h.most
         · show ms r = _
           rw [← hm, l1]
         · simpa using l2
       | false =>
         have hm : ms s.ring.items = x.bytes :: ms r := by rw [hi]; simp [ms, hs]
         cases l with
         | nil => rw [hm] at l1; cases l1
         | cons z l =>
           rw [hm, List.map_cons] at l1; obtain ⟨e1, e2⟩ := List.cons.inj l1; obtain ⟨z1, z2, z3, z4⟩ := l2 0 (by simp); simp only [List.getElem_cons_zero, Nat.add_zero] at z1 z2 z3 z4; have hmm := congrArg List.length hm; rw [ms_length, List.length_cons, ms_length] at hmm
           have hw' : s.sent - s.acked < (s.ring.most : Int) := by
            unfold Ss.waits at hw; rw [hi] at hw; simp [hs] at hw; omega
           refine ⟨z, z1, e1, ⟨?_, h.offN, fun _ => ?_, ?_, hits, ⟨l, e2, fun j hj => ?_⟩, h.bye⟩, .inr ⟨z2, ?_, z4, by simp⟩⟩
           · show 0 ≤ fr ∧ fr ≤ s.sent + (if false = true then 0 else 1)
             simp; omega
           · show s.sent + (if false = true then 0 else 1) + (mains r : Nat) = s.next
             simp; omega
           · show s.sent + (if false = true then 0 else 1) - s.acked ≤ (s.ring.most : Int)
             simp; omega
           · obtain ⟨a1, a2, a3, a4⟩ := l2 (j + 1) (by simp; omega)
             simp only [List.getElem_cons_succ] at a1 a2 a3 a4; refine ⟨a1, a2, ?_, ?_⟩
             · show l[j].index = s.sent + (if false = true then 0 else 1) + (j : Int)
               rw [a3]; simp; omega
             · show off[(s.sent + (if false = true then 0 else 1) - fr).toNat + j]? = _
               rw [← a4]; congr 1
               simp; omega
           · rw [z3]; simp
theorem Lw.queued (h : OkSs s k) : s.queued ≤ (s.ring.most : Int) := by
 unfold Ss.queued; have h1 := h.most; have h2 := h.len; split <;> omega
end
end
structure Flt where
 f : FuncId
 first : Array Value
 cap : Array Value
 why : Int
def Flt.v (p : Flt) : Value := .func (.func p.f) p.first p.cap
def TellsF (w : World) (p : Flt) (b : Bool) : Prop := (∀ args w, (callFunc p.f args).run Tryz.prog w = .ok (.enter p.f args) w) ∧ ∀ w1, Ext w w1 → Calls Tryz.prog p.f (p.first ++ p.cap) w1 fun e w2 => e = .returned (.bool b) ∧ Ext w1 w2
theorem TellsF.ext {w w' : World} {p : Flt} {b : Bool} (h : TellsF w p b) (e : Ext w w') : TellsF w' p b := ⟨h.1, fun w1 h1 => h.2 w1 (e.ext h1)⟩
section
def byeR (v : Value) (o : Option (List UInt8)) : Res := anyR (fun F w => (o = none ∧ v = .slice none 0 0 ∧ ∀ k, ¬ F k) ∨ ∃ l, o = some l ∧ l ≠ [] ∧ (bytR v l).p F w)
 (fun h hk hs => h.imp id fun ⟨l, h1, h2, h3⟩ => ⟨l, h1, h2, Res.keeps _ h3 hk hs⟩) (fun h k hF => by
  rcases h with ⟨-, -, h⟩ | ⟨l, -, -, h⟩
  · exact (h k hF).elim
  · exact Res.lt _ h k hF)
theorem byeR.byt {A : Nat → Prop} {w : World} {v : Value} {l : List UInt8} (h : (byeR v (some l)).p A w) : l ≠ [] ∧ (bytR v l).p A w := by
 rcases h with ⟨h, -⟩ | ⟨m, h1, h2, h3⟩
 · cases h
 · cases h1; exact ⟨h2, h3⟩
theorem byeR.nil {A : Nat → Prop} {w : World} {v : Value} (h : (byeR v none).p A w) : v = .slice none 0 0 := by
 rcases h with ⟨-, h, -⟩ | ⟨m, h1, h2, h3⟩
 · exact h
 · cases h1
section
variable {F : Nat → Prop} {w0 w : World} {L : List Res} {sb rb : Nat} {bv : Value} {s : Ss}
end
end
theorem tabs_mem {F : Nat → Prop} {w0 w : World} {L : List Res} (hX : TabX F w0) (h : Mem F w0 w L) : Tabs w := hX.1.keeps h.keepsTo hX.2.1 hX.2.2
theorem byeR.form {A : Nat → Prop} {w : World} {v : Value} {o : Option (List UInt8)} (h : (byeR v o).p A w) : (o = none ∧ v = .slice none 0 0) ∨ ∃ l p c, o = some l ∧ v = .slice (some p) l.length c := by
 rcases h with ⟨h1, h2, -⟩ | ⟨l, h1, h2, h3⟩
 · exact .inl ⟨h1, h2⟩
 · refine .inr ⟨l, ?_⟩
   obtain ⟨g, o, cap, hv, -⟩ := Win.form h3.2 (List.length_pos_iff.2 h2); exact ⟨_, _, h1, hv⟩


section
attribute [local go_sem] Oper.semAt_some
end
theorem bytes_nil0 {A : Nat → Prop} {w : World} : Bytes w A (.slice none 0 0) [] := .inl ⟨none, rfl, rfl⟩

structure Sv where
 member : Int
 number : Int
 next : Int
 sent : Int
 acked : Int
 heard : Int
 live : Bool
 closed : Bool
 queued : Int
deriving DecidableEq
abbrev Sv.cells (z : Sv) : List Value := [.int .i64 z.member, .int .i64 z.number, .int .i64 z.next, .int .i64 z.sent, .int .i64 z.acked, .int .i64 z.heard, .bool z.live, .bool z.closed, .int .i64 z.queued]
def Sv.v (z : Sv) : Value := .agg #[.int .i64 z.member, .int .i64 z.number, .int .i64 z.next, .int .i64 z.sent, .int .i64 z.acked, .int .i64 z.heard, .bool z.live, .bool z.closed, .int .i64 z.queued]
def Ss.sv (s : Ss) : Sv := ⟨s.member, s.number, s.next, s.sent, s.acked, s.heard, s.live, s.closed, 0⟩
theorem byeR.bytes {A : Nat → Prop} {w : World} {v : Value} {o : Option (List UInt8)} (h : (byeR v o).p A w) : Bytes w A v (o.getD []) := by
 rcases h with ⟨rfl, rfl, -⟩ | ⟨l, rfl, -, h⟩
 · exact bytes_nil0
 · exact bytR.bytes h
section
abbrev docC (a : Option Addr) (c : Nat) (p : Option Addr) (q : Nat) (s : Ss) : List Value := [.int .i64 s.member, .int .i64 s.number, .int .i64 s.next, .int .i64 s.sent, .int .i64 s.acked, .int .i64 s.heard, .bool s.live, .bool s.closed, .int .i64 0, .int .i64 s.wait, .int .i64 (s.ring.most : Int), .slice a s.ring.items.length c, .int .i64 (s.ring.lost : Int), .slice p (s.bye.getD []).length q, .bool s.bye.isSome]
def DocAt (w : World) (F : Nat → Prop) (v : Value) (s : Ss) : Prop := ∃ a c p q, v = .agg (docC a c p q s).toArray ∧ SlV F (ItemAt w F) 3 (.slice a s.ring.items.length c) s.ring.items ∧ Bytes w F (.slice p (s.bye.getD []).length q) (s.bye.getD [])
section
variable {w w' : World} {S F G : Nat → Prop} {v : Value} {s : Ss}
theorem DocAt.keeps (h : DocAt w F v s) (hk : Keeps S w w') (hs : ∀ k, F k → ¬ S k) : DocAt w' F v s :=
 let ⟨a, c, p, q, h1, h2, h3⟩ := h
 ⟨a, c, p, q, h1, h2.itKeeps hk hs, h3.keeps hk hs⟩
theorem DocAt.ext (h : DocAt w F v s) (e : Ext w w') : DocAt w' F v s := h.keeps e fun _ _ => noB _
theorem DocAt.mono (h : DocAt w F v s) (hs : ∀ k, F k → G k) : DocAt w G v s :=
 let ⟨a, c, p, q, h1, h2, h3⟩ := h
 ⟨a, c, p, q, h1, h2.itMono hs, h3.mono hs⟩
end
instance wdN : Wd 0 [] := ⟨rfl, fun _ h => by cases h⟩
instance wdC (n : Nat) (a : Value) (l : List Value) [h : One a] [g : Wd n l] : Wd (n + 1) (a :: l) := ⟨by rw [List.length_cons, g.len], fun u hu => by
 rcases List.mem_cons.1 hu with rfl | hu
 · exact h.out
 · exact g.one u hu⟩
end

end Go.Proofs.YtoadjbgpfihoiaaGreatDoor
