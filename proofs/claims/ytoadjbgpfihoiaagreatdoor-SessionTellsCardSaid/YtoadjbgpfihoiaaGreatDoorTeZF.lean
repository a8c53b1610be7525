/- Texts Read, BackL, SessL, SessT, one behind the other. Conditions: as each says. -/
import Derived.Test.YtoadjbgpfihoiaaGreatDoorTeX
import Derived.Test.YtoadjbgpfihoiaaGreatDoorTeZD
import Derived.Test.YtoadjbgpfihoiaaGreatDoorTeZE
set_option linter.unusedVariables false
set_option linter.unusedSimpArgs false
set_option maxHeartbeats 8000000
set_option maxRecDepth 100000
namespace Go.Proofs.YtoadjbgpfihoiaaGreatDoor
open Go.RowKit
def readL (b : List UInt8) : Sd × Nat × Int :=
 if (splitL b).2.2 ≠ 0 ∨ (splitL b).2.1 = 0 then (Sd.of 0, 0, (splitL b).2.2) else
 if (parseL (splitL b).1).2 ≠ 0 then (Sd.of 0, 0, (parseL (splitL b).1).2) else ((parseL (splitL b).1).1, (splitL b).2.1, 0)
theorem parse_err (b : List UInt8) (h : (parseL b).2 ≠ 0) : (parseL b).1 = Sd.of 0 := by
 unfold parseL at h ⊢; dsimp only at h ⊢; split at h
 · exact absurd rfl h
 · rename_i hc
   rw [if_neg hc]
theorem results_ctt {P : Program} {w : World} {fn : Func} {r s u : Nat} {ty : TypeId} {v : Value} {ad : Addr} (hr : fn.results = #[.cell r ty, .tmp s, .tmp u]) (tmps : Array Value) (h0 : tmps.getD r undef = .pointer (some ad)) (hl : (loadVar ty ad).run P w = .ok v w) :
 (results fn tmps).run P w = .ok (.tuple #[v, tmps.getD s undef, tmps.getD u undef]) w := by
 unfold results; rw [hr]; simp only [List.mapM_toArray, List.mapM_cons, List.mapM_nil]; simp [h0, asAddr, hl, Sem.run_bind, Result.andThen]
theorem fread_any {A : Nat → Prop} (W w : World) (hT : Tabs W) (hE : Ext W w) (v : Value) (l : List UInt8) (h : Bytes w A v l) (hA : ∀ k, A k → k < w.heap.size) (hl : l.length ≤ 1099511627776) :
 Calls Tryz.prog 139 #[v] w fun e w' => e = .returned (.tuple #[(readL l).1.v, .int .i64 ((readL l).2.1 : Int), .int .i64 (readL l).2.2]) ∧ Ext w w' := by
 obtain ⟨a, c, rfl⟩ := h.len; have HM := Hd (Mem.start0 w); have HE := Hd hE; have HB := Hd h; have HA := Hd hA; have HLL := Hd hl; clear hE h hA hl; obtain ⟨Z, hZ⟩ : ∃ Z, readL l = Z := ⟨_, rfl⟩; rw [hZ]; have hRL := hZ; unfold readL at hRL; have HZ := Hd hRL; clear hZ hRL; go_enter Tryz.func139, Tryz.ntmps139
 have fM := HM.out.fa; go_wp2_with fail; all_goals clear fM
 refine nxt HM fun w1 M => ?_
 replace HM := M; clear M; obtain ⟨k0, hk0⟩ : ∃ k, w.heap.size = k := ⟨_, rfl⟩; rw [hk0] at HM ⊢; clear hk0; refine (split_any w1 (.slice a l.length c) l (HB.out.ext HM.out.extTo) (fun k hk => Nat.lt_of_lt_of_le (HA.out k hk) HM.out.extTo.size) HLL.out).mono ?_; rintro e w2 ⟨⟨x, rfl, hx⟩, hE2⟩; have hsb := splitL_b l; obtain ⟨⟨sb, n, no⟩, hs⟩ : ∃ s, splitL l = s := ⟨_, rfl⟩; rw [hs] at hx HZ hsb ⊢; dsimp only at hx HZ hsb ⊢; have HX := Hd hx; have HX2 := Hd hsb; replace HM := Hd (HM.out.ext hE2); have hlt : ∀ k, New w1 w2 k → k < w2.heap.size := fun k hk => hk.2
 have HLT := Hd hlt; clear hx hsb hs hE2 hlt; by_cases h1 : no = 0
 case neg =>
  have HQ := Hd (show Z = (Sd.of 0, 0, no) by rw [← HZ.out, if_pos (.inl h1)]); have d1 : (no != 0) = true := by simpa using h1
  clear h1; have fM := HM.out.fa; go_wp2_with fail; all_goals clear fM
  refine nxt HM fun w9 M => ?_
  replace HM := M; clear M; obtain ⟨Ahb, hb⟩ := HM.out.get (r := cellsR k0 37 [.int .i64 0, .int .i64 0, .int .i64 0, .int .i64 0, .bool false, .string ⟨#[]⟩, .string ⟨#[]⟩, .int .i64 0, .int .i64 0, .int .i64 0, .string ⟨#[]⟩]) (by repeat first | exact ph | apply pt); refine bodyPost_ret (results_ctt Tryz.results139 _ rfl (run_loadVar_row w9 _ _ 37 _ (0, 0) _ hb.2 Tryz.underlying37 rfl (by kernel_rfl))) rfl ?_; exact ⟨by rw [HQ.out]; rfl, HM.out.extTo⟩
 subst h1; by_cases h2 : n = 0
 · have HQ := Hd (show Z = (Sd.of 0, 0, 0) by rw [← HZ.out, if_pos (.inr h2)])
   subst h2; have fM := HM.out.fa; go_wp2_with fail; all_goals clear fM
   refine nxt HM fun w9 M => ?_
   replace HM := M; clear M; obtain ⟨Ahb, hb⟩ := HM.out.get (r := cellsR k0 37 [.int .i64 0, .int .i64 0, .int .i64 0, .int .i64 0, .bool false, .string ⟨#[]⟩, .string ⟨#[]⟩, .int .i64 0, .int .i64 0, .int .i64 0, .string ⟨#[]⟩]) (by repeat first | exact ph | apply pt); refine bodyPost_ret (results_ctt Tryz.results139 _ rfl (run_loadVar_row w9 _ _ 37 _ (0, 0) _ hb.2 Tryz.underlying37 rfl (by kernel_rfl))) rfl ?_; exact ⟨by rw [HQ.out]; rfl, HM.out.extTo⟩
 have hz2 := HZ.out; rw [if_neg (fun h => h.elim (fun h => h rfl) h2)] at hz2; replace HZ := Hd hz2; have d2 : ((n : Int) == 0) = false := by simp; omega
 clear hz2 h2; have fM := HM.out.fa; go_wp2_with fail; all_goals clear fM
 clear d2; refine (parse_any W _ hT (HE.out.ext HM.out.extTo) x sb HX.out (by have := HX2.out; have := HLL.out; omega)).mono ?_; rintro e w3 ⟨rfl, hE3⟩; have hpe := parse_err sb; obtain ⟨⟨s, no⟩, hp⟩ : ∃ p, parseL sb = p := ⟨_, rfl⟩; rw [hp] at HZ hpe ⊢; dsimp only at HZ hpe ⊢; replace HM := Hd (HM.out.ext hE3); clear hE3 hp; by_cases h3 : no = 0
 case neg =>
  have HQ := Hd (show Z = (Sd.of 0, 0, no) by rw [← HZ.out, if_pos h3]); have hs0 := hpe h3; subst hs0; have d3 : (no != 0) = true := by simpa using h3
  clear h3 hpe; rw [show (Sd.of 0).v = .agg #[.int .i64 0, .int .i64 0, .int .i64 0, .int .i64 0, .bool false, .string ⟨#[]⟩, .string ⟨#[]⟩, .int .i64 0, .int .i64 0, .int .i64 0, .string ⟨#[]⟩] from rfl]; have fM := HM.out.fa; go_wp2_with fail; all_goals clear fM
  refine nxt HM fun w9 M => ?_
  replace HM := M; clear M; obtain ⟨Ahb, hb⟩ := HM.out.get (r := cellsR k0 37 [.int .i64 0, .int .i64 0, .int .i64 0, .int .i64 0, .bool false, .string ⟨#[]⟩, .string ⟨#[]⟩, .int .i64 0, .int .i64 0, .int .i64 0, .string ⟨#[]⟩]) (by repeat first | exact ph | apply pt); refine bodyPost_ret (results_ctt Tryz.results139 _ rfl (run_loadVar_row w9 _ _ 37 _ (0, 0) _ hb.2 Tryz.underlying37 rfl (by kernel_rfl))) rfl ?_; exact ⟨by rw [HQ.out]; rfl, HM.out.extTo⟩
 subst h3; have HQ := Hd (show Z = (s, n, 0) by rw [← HZ.out, if_neg (fun h => h rfl)]); clear hpe; unfold Sd.v Sd.cells; have fM := HM.out.fa; go_wp2_with fail; all_goals clear fM
 refine nxt HM fun w9 M => ?_
 replace HM := M; clear M; obtain ⟨Ahb, hb⟩ := HM.out.get (r := cellsR k0 37 [.int .i64 s.kind, .int .i64 s.member, .int .i64 s.number, .int .i64 s.index, .bool s.is, .string (bs s.text), .string (bs s.token), .int .i64 s.e.kind, .int .i64 s.e.member, .int .i64 s.e.number, .string (bs s.e.text)]) (by repeat first | exact ph | apply pt); refine bodyPost_ret (results_ctt Tryz.results139 _ rfl (run_loadVar_row w9 _ _ 37 _ (0, 0) _ hb.2 Tryz.underlying37 rfl (by kernel_rfl))) rfl ?_; exact ⟨by rw [HQ.out]; rfl, HM.out.extTo⟩
theorem docRead_any {A : Nat → Prop} (W w : World) (hT : Tabs W) (hE : Ext W w) (v : Value) (l : List UInt8) (h : Bytes w A v l) (hA : ∀ k, A k → k < w.heap.size) (hl : l.length ≤ 1099511627776) :
 Calls Tryz.prog 44 #[v] w fun e w' => e = .returned (.tuple #[(readL l).1.v, .int .i64 ((readL l).2.1 : Int), .int .i64 (readL l).2.2]) ∧ Ext w w' := by
 obtain ⟨a, c, rfl⟩ := h.len; have HM := Hd (Mem.start0 w); have HE := Hd hE; have HB := Hd h; have HA := Hd hA; have HLL := Hd hl; clear hE h hA hl; obtain ⟨Z, hZ⟩ : ∃ Z, readL l = Z := ⟨_, rfl⟩; rw [hZ]; have hRL := hZ; unfold readL at hRL; have HZ := Hd hRL; clear hZ hRL; go_enter Tryz.func44, Tryz.ntmps44
 have fM := HM.out.fa; go_wp2_with fail; all_goals clear fM
 refine nxt HM fun w1 M => ?_
 replace HM := M; clear M; obtain ⟨k0, hk0⟩ : ∃ k, w.heap.size = k := ⟨_, rfl⟩; rw [hk0] at HM ⊢; clear hk0; refine (rsplit_any w1 (.slice a l.length c) l (HB.out.ext HM.out.extTo) (fun k hk => Nat.lt_of_lt_of_le (HA.out k hk) HM.out.extTo.size) HLL.out).mono ?_; rintro e w2 ⟨⟨x, rfl, hx⟩, hE2⟩; have hsb := splitL_b l; obtain ⟨⟨sb, n, no⟩, hs⟩ : ∃ s, splitL l = s := ⟨_, rfl⟩; rw [hs] at hx HZ hsb ⊢; dsimp only at hx HZ hsb ⊢; have HX := Hd hx; have HX2 := Hd hsb; replace HM := Hd (HM.out.ext hE2); have hlt : ∀ k, New w1 w2 k → k < w2.heap.size := fun k hk => hk.2
 have HLT := Hd hlt; clear hx hsb hs hE2 hlt; by_cases h1 : no = 0
 case neg =>
  have HQ := Hd (show Z = (Sd.of 0, 0, no) by rw [← HZ.out, if_pos (.inl h1)]); have d1 : (no != 0) = true := by simpa using h1
  clear h1; have fM := HM.out.fa; go_wp2_with fail; all_goals clear fM
  refine nxt HM fun w9 M => ?_
  replace HM := M; clear M; obtain ⟨Ahb, hb⟩ := HM.out.get (r := cellsR k0 37 [.int .i64 0, .int .i64 0, .int .i64 0, .int .i64 0, .bool false, .string ⟨#[]⟩, .string ⟨#[]⟩, .int .i64 0, .int .i64 0, .int .i64 0, .string ⟨#[]⟩]) (by repeat first | exact ph | apply pt); refine bodyPost_ret (results_ctt Tryz.results44 _ rfl (run_loadVar_row w9 _ _ 37 _ (0, 0) _ hb.2 Tryz.underlying37 rfl (by kernel_rfl))) rfl ?_; exact ⟨by rw [HQ.out]; rfl, HM.out.extTo⟩
 subst h1; by_cases h2 : n = 0
 · have HQ := Hd (show Z = (Sd.of 0, 0, 0) by rw [← HZ.out, if_pos (.inr h2)])
   subst h2; have fM := HM.out.fa; go_wp2_with fail; all_goals clear fM
   refine nxt HM fun w9 M => ?_
   replace HM := M; clear M; obtain ⟨Ahb, hb⟩ := HM.out.get (r := cellsR k0 37 [.int .i64 0, .int .i64 0, .int .i64 0, .int .i64 0, .bool false, .string ⟨#[]⟩, .string ⟨#[]⟩, .int .i64 0, .int .i64 0, .int .i64 0, .string ⟨#[]⟩]) (by repeat first | exact ph | apply pt); refine bodyPost_ret (results_ctt Tryz.results44 _ rfl (run_loadVar_row w9 _ _ 37 _ (0, 0) _ hb.2 Tryz.underlying37 rfl (by kernel_rfl))) rfl ?_; exact ⟨by rw [HQ.out]; rfl, HM.out.extTo⟩
 have hz2 := HZ.out; rw [if_neg (fun h => h.elim (fun h => h rfl) h2)] at hz2; replace HZ := Hd hz2; have d2 : ((n : Int) == 0) = false := by simp; omega
 clear hz2 h2; have fM := HM.out.fa; go_wp2_with fail; all_goals clear fM
 clear d2; refine (docParse_any W _ hT (HE.out.ext HM.out.extTo) x sb HX.out HLT.out (by have := HX2.out; have := HLL.out; omega)).mono ?_; rintro e w3 ⟨rfl, hE3⟩; have hpe := parse_err sb; obtain ⟨⟨s, no⟩, hp⟩ : ∃ p, parseL sb = p := ⟨_, rfl⟩; rw [hp] at HZ hpe ⊢; dsimp only at HZ hpe ⊢; replace HM := Hd (HM.out.ext hE3); clear hE3 hp; by_cases h3 : no = 0
 case neg =>
  have HQ := Hd (show Z = (Sd.of 0, 0, no) by rw [← HZ.out, if_pos h3]); have hs0 := hpe h3; subst hs0; have d3 : (no != 0) = true := by simpa using h3
  clear h3 hpe; rw [show (Sd.of 0).v = .agg #[.int .i64 0, .int .i64 0, .int .i64 0, .int .i64 0, .bool false, .string ⟨#[]⟩, .string ⟨#[]⟩, .int .i64 0, .int .i64 0, .int .i64 0, .string ⟨#[]⟩] from rfl]; have fM := HM.out.fa; go_wp2_with fail; all_goals clear fM
  refine nxt HM fun w9 M => ?_
  replace HM := M; clear M; obtain ⟨Ahb, hb⟩ := HM.out.get (r := cellsR k0 37 [.int .i64 0, .int .i64 0, .int .i64 0, .int .i64 0, .bool false, .string ⟨#[]⟩, .string ⟨#[]⟩, .int .i64 0, .int .i64 0, .int .i64 0, .string ⟨#[]⟩]) (by repeat first | exact ph | apply pt); refine bodyPost_ret (results_ctt Tryz.results44 _ rfl (run_loadVar_row w9 _ _ 37 _ (0, 0) _ hb.2 Tryz.underlying37 rfl (by kernel_rfl))) rfl ?_; exact ⟨by rw [HQ.out]; rfl, HM.out.extTo⟩
 subst h3; have HQ := Hd (show Z = (s, n, 0) by rw [← HZ.out, if_neg (fun h => h rfl)]); clear hpe; unfold Sd.v Sd.cells; have fM := HM.out.fa; go_wp2_with fail; all_goals clear fM
 refine nxt HM fun w9 M => ?_
 replace HM := M; clear M; obtain ⟨Ahb, hb⟩ := HM.out.get (r := cellsR k0 37 [.int .i64 s.kind, .int .i64 s.member, .int .i64 s.number, .int .i64 s.index, .bool s.is, .string (bs s.text), .string (bs s.token), .int .i64 s.e.kind, .int .i64 s.e.member, .int .i64 s.e.number, .string (bs s.e.text)]) (by repeat first | exact ph | apply pt); refine bodyPost_ret (results_ctt Tryz.results44 _ rfl (run_loadVar_row w9 _ _ 37 _ (0, 0) _ hb.2 Tryz.underlying37 rfl (by kernel_rfl))) rfl ?_; exact ⟨by rw [HQ.out]; rfl, HM.out.extTo⟩
theorem splitL_app {m : List UInt8} (h : m.length ≤ 4096) (r : List UInt8) : splitL (frameL m ++ r) = (m, (frameL m).length, 0) := by
 have h1 := takeL_num (n := m.length + 4) (by unfold topN; omega) (sealL m ++ r); have h2 := numL_len (m.length + 4); have hf : frameL m ++ r = numL (m.length + 4) ++ (sealL m ++ r) := by unfold frameL; rw [List.append_assoc]
 have hd : (frameL m ++ r).drop (numL (m.length + 4)).length = sealL m ++ r := by rw [hf]; exact List.drop_left' rfl
 have ht : (sealL m ++ r).take (m.length + 4) = sealL m := List.take_left' (sealL_len m); unfold splitL; rw [hf, h1, ← hf]; dsimp only
 rw [if_neg (by omega), if_neg (by omega), Int.toNat_natCast, hd, ht, open_seal, if_neg (by
  rw [hf, List.length_append, List.length_append, sealL_len]; omega)]
 dsimp only; unfold frameL; rw [List.length_append, sealL_len]
theorem num_back (n : Nat) (g : Int) (hg : (n : Int) ≤ g) (ht : n ≤ topN) (r : List UInt8) : (⟨numL n ++ r, 0⟩ : Rdr).num g = (⟨r, 0⟩, n, 0) := by
 have h1 := takeL_num ht r; have h2 := numL_len n; unfold Rdr.num; rw [if_neg (by simp), if_neg (by omega)]; dsimp only; rw [h1]; dsimp only; rw [if_pos ⟨by omega, hg⟩, Int.toNat_natCast, List.drop_left' rfl]
theorem txt_back (s : List UInt8) (hs : s.length ≤ 200) (r : List UInt8) : (⟨txtL s ++ r, 0⟩ : Rdr).txt 200 = (⟨r, 0⟩, s, 0) := by
 have h1 : (⟨txtL s ++ r, 0⟩ : Rdr).num 200 = (⟨s ++ r, 0⟩, s.length, 0) := by
  unfold txtL; rw [List.append_assoc]; exact num_back s.length 200 (by omega) (by unfold topN; omega) _
 unfold Rdr.txt; rw [h1]; dsimp only; rw [if_neg (by simp), if_pos (by rw [List.length_append]; omega), List.drop_left' rfl, List.take_left' rfl]
theorem tru_back (b : Bool) (r : List UInt8) : (⟨truL b ++ r, 0⟩ : Rdr).tru = (⟨r, 0⟩, b, 0) := by
 cases b <;> rfl
theorem entry_back (e : En) (x : Sd) (hx : x.e = En0) (hk : e.kind ≠ 1) (h : enB e = true) (s : Sd) (hs : s.e = e) (r : List UInt8) : Part.entry.take ⟨Part.entry.lay s ++ r, 0⟩ x = (⟨r, 0⟩, { x with e := e }) := by
 obtain ⟨⟨k0, k4⟩, ⟨m0, m15⟩, h4⟩ := enB_bounds hk h
 have hne : e.kind ≠ 4 → e.number = 0 ∧ e.text = [] := fun h5 => by
  unfold enB at h; simp [hk, h5] at h; have h6 := h.2.2; unfold aloneB at h6; have h7 := of_decide_eq_true h6; exact ⟨congrArg En.number h7, congrArg En.text h7⟩
 obtain ⟨k, m, n, t⟩ := e; dsimp only at k0 k4 m0 m15 h4 hne; obtain ⟨k, rfl⟩ := Int.eq_ofNat_of_zero_le k0; obtain ⟨m, rfl⟩ := Int.eq_ofNat_of_zero_le m0; unfold Part.take Part.lay; dsimp only; rw [hs]; dsimp only; rw [Int.toNat_natCast, Int.toNat_natCast]; by_cases h5 : (k : Int) = 4
 · obtain ⟨a1, a2, a3⟩ := h4 h5
   obtain ⟨n, rfl⟩ := Int.eq_ofNat_of_zero_le a1; rw [if_pos h5, Int.toNat_natCast]; rw [show numL k ++ numL m ++ (numL n ++ txtL t) ++ r = numL k ++ (numL m ++ (numL n ++ (txtL t ++ r))) by simp]; rw [num_back k 4 (by omega) (by unfold topN; omega)]; dsimp only; rw [num_back m 15 (by omega) (by unfold topN; omega)]; dsimp only; rw [if_pos (by omega), num_back n 2147483647 (by omega) (by unfold topN; omega)]; dsimp only; rw [txt_back t a3]
 · obtain ⟨b1, b2⟩ := hne h5
   subst b1 b2; rw [if_neg h5]; rw [show numL k ++ numL m ++ [] ++ r = numL k ++ (numL m ++ r) by simp]; rw [num_back k 4 (by omega) (by unfold topN; omega)]; dsimp only; rw [num_back m 15 (by omega) (by unfold topN; omega)]; dsimp only; rw [if_neg (by omega), hx]; rfl
theorem take_back (p : Part) (s x : Sd) (hm : p.may s = true) (hb : bndB s = true) (ht : s.text.length ≤ 200 ∨ p ≠ .said) (hx : x.e = En0) (r : List UInt8) : p.take ⟨p.lay s ++ r, 0⟩ x = (⟨r, 0⟩, p.keep s x) := by
 obtain ⟨g1, g2, g3, g4, g5, g6, g7⟩ := (bnd_iff s).1 hb; cases p
 · unfold Part.take Part.lay Part.keep
   dsimp only; rw [num_back s.member.toNat 15 (by omega) (by unfold topN; omega)]; dsimp only; rw [Int.toNat_of_nonneg g1]
 · unfold Part.take Part.lay Part.keep
   dsimp only; rw [num_back s.number.toNat 2147483647 (by omega) (by unfold topN; omega)]; dsimp only; rw [Int.toNat_of_nonneg g3]
 · unfold Part.take Part.lay Part.keep
   dsimp only; rw [num_back s.index.toNat 2147483647 (by omega) (by unfold topN; omega)]; dsimp only; rw [Int.toNat_of_nonneg g5]
 · unfold Part.take Part.lay Part.keep
   dsimp only; rw [tru_back]
 · unfold Part.take Part.lay Part.keep
   dsimp only; rw [txt_back s.text (ht.resolve_right (fun h => h rfl))]
 · unfold Part.take Part.lay Part.keep
   dsimp only; rw [txt_back s.token g7]
 · unfold Part.may at hm
   simp only [Bool.and_eq_true, decide_eq_true_eq] at hm; exact entry_back s.e x hx hm.1 hm.2 s rfl r
theorem Part.keep_e (p : Part) (s x : Sd) (h : p ≠ .entry) : (p.keep s x).e = x.e := by
 cases p <;> first | rfl | exact absurd rfl h
theorem takeAll_back (s : Sd) (hb : bndB s = true) : ∀ (ps : List Part) (x : Sd) (r : List UInt8), (ps.all fun p => p.may s) = true → (ps.map Part.slot).Nodup → (.said ∈ ps → s.text.length ≤ 200) → (.entry ∈ ps → x.e = En0) → x.e = En0 →
 takeAll ps ⟨(ps.map fun p => p.lay s).flatten ++ r, 0⟩ x = (⟨r, 0⟩, ps.foldl (fun x p => p.keep s x) x)
 | [], x, r, _, _, _, _, _ => rfl
 | p :: ps, x, r, hm, hn, ht, he, hx => by
   rw [List.all_cons, Bool.and_eq_true] at hm; rw [List.map_cons, List.nodup_cons] at hn
   rw [takeAll_cons, List.map_cons, List.flatten_cons, List.append_assoc, take_back p s x hm.1 hb (by
    by_cases h : p = .said
    · exact .inl (ht (by rw [h]; exact List.mem_cons_self ..))
    · exact .inr h) hx]
   dsimp only; by_cases hpe : p = .entry
   · have hne : ∀ q ∈ ps, q ≠ .entry := fun q hq e => hn.1 (by rw [hpe, ← e]; exact List.mem_map_of_mem hq)
     exact takeAll_tail s hb ps (p.keep s x) r hm.2 (fun h => ht (List.mem_cons_of_mem _ h)) hne
   · exact takeAll_back s hb ps (p.keep s x) r hm.2 hn.2 (fun h => ht (List.mem_cons_of_mem _ h)) (fun _ => by rw [p.keep_e s x hpe]; exact hx) (by rw [p.keep_e s x hpe]; exact hx)
where
 takeAll_tail (s : Sd) (hb : bndB s = true) : ∀ (ps : List Part) (x : Sd) (r : List UInt8), (ps.all fun p => p.may s) = true → (.said ∈ ps → s.text.length ≤ 200) → (∀ q ∈ ps, q ≠ .entry) →
  takeAll ps ⟨(ps.map fun p => p.lay s).flatten ++ r, 0⟩ x = (⟨r, 0⟩, ps.foldl (fun x p => p.keep s x) x)
  | [], x, r, _, _, _ => rfl
  | p :: ps, x, r, hm, ht, hne => by
    rw [List.all_cons, Bool.and_eq_true] at hm; have hp := hne p (List.mem_cons_self ..)
    have hte : p.take ⟨p.lay s ++ ((ps.map fun p => p.lay s).flatten ++ r), 0⟩ x = (⟨(ps.map fun p => p.lay s).flatten ++ r, 0⟩, p.keep s x) := by
     have h1 := take_back p s { x with e := En0 } hm.1 hb (by
      by_cases h : p = .said
      · exact .inl (ht (by rw [h]; exact List.mem_cons_self ..))
      · exact .inr h) rfl ((ps.map fun p => p.lay s).flatten ++ r)
     cases p <;> first | exact absurd rfl hp | (unfold Part.take Part.keep at h1 ⊢; dsimp only at h1 ⊢; simp only [Prod.mk.injEq, Sd.mk.injEq, true_and, and_true] at h1 ⊢; exact h1)
    rw [takeAll_cons, List.map_cons, List.flatten_cons, List.append_assoc, hte]; exact takeAll_tail s hb ps (p.keep s x) r hm.2 (fun h => ht (List.mem_cons_of_mem _ h)) (fun q hq => hne q (List.mem_cons_of_mem _ hq))
theorem parse_body (s : Sd) (h : sdB s = true) : parseL (bodyL s) = (s, 0) := by
 have h0 := h; rw [← right_eq] at h0; simp only [Bool.and_eq_true, decide_eq_true_eq] at h0; obtain ⟨⟨⟨hk, hlone⟩, hbd⟩, hown⟩ := h0
 obtain ⟨ps, hps, hall⟩ : ∃ ps, partsOf s.kind = some ps ∧ (ps.all fun p => p.may s) = true := by
  unfold sdB at h; split at h
  · cases h
  · rename_i ps hps
    rw [Bool.and_eq_true] at h; exact ⟨ps, hps, h.2⟩
 have hnd := partsOf_nodup s.kind; rw [hps] at hnd
 have ht : .said ∈ ps → s.text.length ≤ 200 := fun hmem => by
  have := List.all_eq_true.1 hall _ hmem; unfold Part.may at this; exact chk_200 (by simpa using this)
 have hkn : ((s.kind.toNat : Nat) : Int) = s.kind := Int.toNat_of_nonneg (by omega); have hnum := num_back s.kind.toNat 12 (by omega) (by unfold topN; omega) ((ps.map fun p => p.lay s).flatten); have htk := takeAll_back s hbd ps (Sd.of s.kind) [] hall hnd ht (fun _ => rfl) rfl; rw [List.append_nil] at htk
 have hlo : ps.foldl (fun x p => p.keep s x) (Sd.of s.kind) = s := by
  conv => rhs; rw [hlone]
  unfold loneS; rw [hps]; rfl
 rw [hlo] at htk; have hbo : bodyL s = numL s.kind.toNat ++ (ps.map fun p => p.lay s).flatten := by unfold bodyL; rw [hps]; rfl
 unfold parseL; rw [hbo, hnum]; dsimp only; rw [hkn, hps, Option.getD_some, htk]; rw [if_pos ⟨rfl, rfl, rfl, h⟩]
theorem readL_app (s : Sd) (h : sdB s = true) (r : List UInt8) : readL (frameL (bodyL s) ++ r) = (s, (frameL (bodyL s)).length, 0) := by
 have hb := body_len s h; have h1 := splitL_app (m := bodyL s) (by omega) r
 have h2 : (frameL (bodyL s)).length ≠ 0 := by
  have := numL_len ((bodyL s).length + 4); unfold frameL; rw [List.length_append]; omega
 unfold readL; rw [h1]; dsimp only; rw [if_neg (fun g => g.elim (fun g => g rfl) h2), parse_body s h, if_neg (fun g => g rfl)]
end Go.Proofs.YtoadjbgpfihoiaaGreatDoor
section
namespace Go.Proofs.YtoadjbgpfihoiaaGreatDoor
open Go.RowKit
structure Ss where
 member : Int
 number : Int
 next : Int
 sent : Int
 acked : Int
 heard : Int
 live : Bool
 closed : Bool
 wait : Int
 ring : AR
 bye : Option (List UInt8)
def farN : Int := 4611686018427387904
def lineS (i : Int) (e : En) (t : List UInt8) : Sd := { Sd.of 9 with index := i, e := e, token := t }
def byeS (n : Int) : Sd := { Sd.of 12 with number := n }
abbrev rawS (s : Sd) : List UInt8 := frameL (bodyL s)
def newOk (member number fr most wait now : Int) : Bool :=
 decide (1 ≤ most ∧ most ≤ 64) && decide (0 ≤ member ∧ member ≤ 15) && decide (0 ≤ number ∧ number ≤ 2147483647) && decide (0 ≤ fr ∧ fr ≤ 2147483647) && decide (1 ≤ wait ∧ wait ≤ 1000000) && decide (0 ≤ now ∧ now ≤ farN)
abbrev newS (member number fr : Int) (most : Nat) (wait now : Int) : Ss := ⟨member, number, fr, fr, fr, now, false, false, wait, ⟨most, 0, []⟩, none⟩
namespace Ss
def offer (s : Ss) (i : Int) (e : En) (t : List UInt8) : Ss × Int :=
 if sdB (lineS i e t) = false then (s, 2) else if s.closed = true then (s, 360) else if i ≠ s.next then (s, 320)
 else if (s.ring.put ⟨false, 0, rawS (lineS i e t)⟩).2.2 ≠ 0 then ({ s with live := false }, 350)
 else ({ s with ring := (s.ring.put ⟨false, 0, rawS (lineS i e t)⟩).1, next := s.next + 1 }, 0)
def reach (s : Ss) (many : Int) : Ss × Int :=
 if ¬ (s.next ≤ many ∧ many ≤ 2147483647) then (s, 2) else if s.closed = true then (s, 360) else ({ s with live := many == s.next }, 0)
def keyS (x : Sd) : Int := x.member + if x.kind = 11 then 16 else 0
def besOk (x : Sd) : Bool := (decide (x.kind = 10) || decide (x.kind = 11)) && sdB x
def beside (s : Ss) (x : Sd) : Ss × Int × Int :=
 if besOk x = false then (s, 0, 2) else if s.closed = true then (s, 0, 360)
 else ({ s with ring := (s.ring.put ⟨true, keyS x, rawS x⟩).1 }, ((s.ring.put ⟨true, keyS x, rawS x⟩).2.1 : Nat), 0)
def waits (s : Ss) : Bool := match s.ring.items with
 | [] => false
 | x :: _ => !x.side && decide (s.sent - s.acked ≥ (s.ring.most : Int))
def take (s : Ss) : Ss × Option (List UInt8) :=
 if s.closed = true then ({ s with bye := none }, s.bye) else if s.waits = true then (s, none)
 else match s.ring.items with
  | [] => (s, none)
  | x :: r => ({ s with ring := { s.ring with items := r }, sent := s.sent + if x.side then 0 else 1 }, some x.bytes)
def ack (s : Ss) (i now : Int) : Ss × Int :=
 if ¬ ((s.acked ≤ i ∧ i ≤ s.sent) ∧ s.heard ≤ now ∧ now ≤ farN) then (s, 2) else if s.closed = true then (s, 360) else ({ s with acked := i, heard := now }, 0)
def hear (s : Ss) (now : Int) : Ss × Int :=
 if ¬ (s.heard ≤ now ∧ now ≤ farN) then (s, 2) else if s.closed = true then (s, 360) else ({ s with heard := now }, 0)
def silent (s : Ss) (now : Int) : Bool := !s.closed && (decide (s.heard ≤ now) && decide (s.wait ≤ now - s.heard))
def close (s : Ss) (why : Int) : Ss × Int :=
 if ¬ (0 ≤ why ∧ why ≤ 2147483647) then (s, 2) else if s.closed = true then (s, 360)
 else ({ s with closed := true, live := false, ring := { s.ring with items := [] }, bye := some (rawS (byeS why)) }, 0)
def queued (s : Ss) : Int := if s.bye.isSome then 1 else (s.ring.items.length : Int)
abbrev cells (s : Ss) : List Value := [.int .i64 s.member, .int .i64 s.number, .int .i64 s.next, .int .i64 s.sent, .int .i64 s.acked, .int .i64 s.heard, .bool s.live, .bool s.closed, .int .i64 0]
abbrev state (s : Ss) : List Value := [.int .i64 s.member, .int .i64 s.number, .int .i64 s.next, .int .i64 s.sent, .int .i64 s.acked, .int .i64 s.heard, .bool s.live, .bool s.closed, .int .i64 s.queued]
end Ss
open Ss
structure OkSs (s : Ss) (k : Nat) : Prop where
 mem : 0 ≤ s.member ∧ s.member ≤ 15
 num : 0 ≤ s.number ∧ s.number ≤ 2147483647
 ack0 : 0 ≤ s.acked
 sent0 : s.acked ≤ s.sent
 next0 : s.sent + (mains s.ring.items : Nat) ≤ s.next
 next1 : s.next ≤ 2147483648
 heard : 0 ≤ s.heard ∧ s.heard ≤ farN
 wait : 1 ≤ s.wait ∧ s.wait ≤ 1000000
 most : 1 ≤ s.ring.most ∧ s.ring.most ≤ 64
 len : s.ring.items.length ≤ s.ring.most
 lost : s.ring.lost ≤ k
 its : ∀ x ∈ s.ring.items, x.bytes.length ≤ 484
 bye : s.closed = false → s.bye = none
 byeL : ∀ b, s.bye = some b → b.length ≤ 484 ∧ b ≠ []
 empty : s.closed = true → s.ring.items = []
theorem frame_pos (l : List UInt8) : frameL l ≠ [] := by
 unfold frameL; intro h; have h1 := congrArg List.length h; have h2 := sealL_len l; rw [List.length_append, List.length_nil] at h1; omega
theorem raw_len (x : Sd) (h : sdB x = true) : (rawS x).length ≤ 484 := frame_len (body_len x h)
theorem sd_bye (n : Int) (h : 0 ≤ n ∧ n ≤ 2147483647) : sdB (byeS n) = true := by
 have h1 : (byeS n).kind = 12 := rfl; unfold sdB; rw [h1]; simp only [partsOf]; simp [Part.clear, Part.may, byeS, Sd.of, h.1, h.2]
theorem new_ok {member number fr most wait now : Int} (h : newOk member number fr most wait now = true) : OkSs (newS member number fr most.toNat wait now) 0 ∧ (most.toNat : Int) = most := by
 unfold newOk at h; simp only [Bool.and_eq_true, decide_eq_true_eq] at h; obtain ⟨⟨⟨⟨⟨h1, h2⟩, h3⟩, h4⟩, h5⟩, h6⟩ := h; refine ⟨⟨h2, h3, h4.1, Int.le_refl _, ?_, ?_, h6, h5, ?_, Nat.zero_le _, Nat.le_refl _, ?_, fun _ => rfl, ?_, ?_⟩, by omega⟩
 · simp [newS, mains]
 · simp only [newS]; omega
 · simp only [newS]; omega
 · intro x hx; simp [newS] at hx
 · intro b hb; cases hb
 · intro hb; cases hb
section
variable {s : Ss} {k : Nat}
theorem OkSs.put (h : OkSs s k) (x : It) (hx : x.bytes.length ≤ 484) : PutMain s.ring x (s.ring.put x) := put_main s.ring x h.len (by omega)
theorem put_len (R : AR) (x : It) (h : R.items.length ≤ R.most) : (R.put x).1.items.length ≤ R.most := by
 unfold AR.put; split
 · exact h
 · split
   · exact h
   · cases hf : R.items.findIdx? (p33 x) with
     | some i => dsimp only; rw [List.length_set]; exact h
     | none =>
       dsimp only; split
       · dsimp only; rw [List.length_append, List.length_singleton]; omega
       · cases hg : R.items.findIdx? p34 with
         | some i =>
           obtain ⟨hi, -⟩ := findIdx_at hg; dsimp only; rw [List.length_append, List.length_eraseIdx, if_pos hi, List.length_singleton]; omega
         | none =>
           dsimp only; split
           · exact h
           · exact h
theorem put_err (R : AR) (x : It) (h : (R.put x).2.2 ≠ 0) : (R.put x).1 = R := by
 unfold AR.put at h ⊢; by_cases h1 : (!x.side && x.key != 0) = true
 · rw [if_pos h1]
 · rw [if_neg h1] at h ⊢
   by_cases h2 : 1024 < x.bytes.length
   · rw [if_pos h2]
   · rw [if_neg h2] at h ⊢
     cases hf : R.items.findIdx? (p33 x) with
     | some i => rw [hf] at h; exact absurd rfl h
     | none =>
       rw [hf] at h; dsimp only at h ⊢; by_cases h3 : R.items.length < R.most
       · rw [if_pos h3] at h; exact absurd rfl h
       · rw [if_neg h3] at h ⊢
         cases hg : R.items.findIdx? p34 with
         | some i => rw [hg] at h; exact absurd rfl h
         | none =>
           rw [hg] at h; dsimp only at h ⊢; by_cases h4 : x.side = true
           · rw [if_pos h4] at h; exact absurd rfl h
           · rw [if_neg h4]
theorem OkSs.mono (h : OkSs s k) {k' : Nat} (hk : k ≤ k') : OkSs s k' := { h with lost := Nat.le_trans h.lost hk }
theorem OkSs.putOk (h : OkSs s k) (x : It) (hx : x.bytes.length ≤ 484) (hc : s.closed = false) (next : Int) (hn : next ≤ 2147483648) (hm : s.sent + (mains (s.ring.put x).1.items : Nat) ≤ next) : OkSs { s with ring := (s.ring.put x).1, next := next } (k + 1) :=
 let p := h.put x hx
 ⟨h.mem, h.num, h.ack0, h.sent0, hm, hn, h.heard, h.wait, by rw [show ({ s with ring := (s.ring.put x).1, next := next } : Ss).ring.most = s.ring.most from p.most]; exact h.most,
  by show (s.ring.put x).1.items.length ≤ (s.ring.put x).1.most; rw [p.most]; exact put_len _ _ h.len, Nat.le_trans p.lost (Nat.succ_le_succ h.lost), fun y hy => (p.sub y hy).elim (h.its y) fun e => e ▸ hx, h.bye, h.byeL,
  fun h' => by rw [show s.closed = true from h'] at hc; cases hc⟩
theorem ms_mains {a b : List It} (h : ms a = ms b) : mains a = mains b := by rw [← ms_length, ← ms_length, h]
theorem OkSs.offer (h : OkSs s k) (i : Int) (e : En) (t : List UInt8) : OkSs (s.offer i e t).1 (k + 1) := by
 unfold Ss.offer; split
 · exact h.mono (Nat.le_succ _)
 · rename_i hsd
   have hsd : sdB (lineS i e t) = true := by simpa using hsd
   split
   · exact h.mono (Nat.le_succ _)
   · rename_i hc
     have hc : s.closed = false := by simpa using hc
     split
     · exact h.mono (Nat.le_succ _)
     · rename_i hi
       have hi : i = s.next := Classical.not_not.1 hi
       have hb : i ≤ 2147483647 := by
        unfold sdB at hsd; rw [show (lineS i e t).kind = 9 from rfl] at hsd; simp only [partsOf] at hsd; simp [Part.may, lineS] at hsd; exact hsd.2.1.2
       split
       · exact { h with lost := Nat.le_succ_of_le h.lost }
       · rename_i hp
         have hp : (s.ring.put ⟨false, 0, rawS (lineS i e t)⟩).2.2 = 0 := Classical.not_not.1 hp; have hl := raw_len _ hsd; refine h.putOk _ hl hc _ (by omega) ?_; have hpm := h.put ⟨false, 0, rawS (lineS i e t)⟩ hl; have h0 := h.next0; by_cases hroom : mains s.ring.items < s.ring.most
         · have := (hpm.got rfl rfl hroom).2
           have h2 := congrArg List.length this; rw [ms_length, List.length_append, ms_length] at h2; simp at h2; omega
         · have := (hpm.full rfl rfl hroom).2
           have := ms_mains this; omega
theorem OkSs.reach (h : OkSs s k) (m : Int) : OkSs (s.reach m).1 k := by
 unfold Ss.reach; split
 · exact h
 · split
   · exact h
   · exact { h with }
theorem OkSs.beside (h : OkSs s k) (x : Sd) : OkSs (s.beside x).1 (k + 1) := by
 unfold Ss.beside; split
 · exact h.mono (Nat.le_succ _)
 · rename_i hb
   have hb : besOk x = true := by simpa using hb
   have hsd : sdB x = true := by unfold besOk at hb; simp only [Bool.and_eq_true] at hb; exact hb.2
   split
   · exact h.mono (Nat.le_succ _)
   · rename_i hc
     have hc : s.closed = false := by simpa using hc
     have hl := raw_len _ hsd; have hpm := h.put ⟨true, keyS x, rawS x⟩ hl; refine h.putOk _ hl hc s.next h.next1 ?_; rw [ms_mains (hpm.other (fun h => by cases h.1))]; exact h.next0
theorem OkSs.take (h : OkSs s k) : OkSs s.take.1 k := by
 unfold Ss.take; split
 · rename_i hc
   exact { h with bye := (fun _ => rfl), byeL := (fun b hb => by cases hb) }
 · rename_i hc
   have hc : s.closed = false := by simpa using hc
   split
   · exact h
   · rename_i hw
     split
     · exact h
     · rename_i x r hxr
       have h0 := h.next0
       have hm : mains s.ring.items = (if x.side then 0 else 1) + mains r := by
        rw [hxr]; unfold mains; cases hs : x.side <;> simp [hs]
        omega
       have hle : s.sent + (if x.side = true then (0 : Int) else 1) + (mains r : Nat) ≤ s.next := by
        rw [hm] at h0; cases hs : x.side <;> simp [hs] at h0 ⊢ <;> omega
       refine { h with sent0 := ?_, next0 := hle, len := ?_, its := (fun y hy => h.its y (by rw [hxr]; exact List.mem_cons_of_mem _ hy)), empty := (fun h' => by rw [show s.closed = true from h'] at hc; cases hc) }
       · have := h.sent0
         show s.acked ≤ s.sent + (if x.side = true then 0 else 1)
         cases hs : x.side <;> simp <;> omega
       · have := h.len
         rw [hxr] at this; simp at this; show r.length ≤ s.ring.most
         omega
theorem OkSs.ack (h : OkSs s k) (i now : Int) : OkSs (s.ack i now).1 k := by
 unfold Ss.ack; split
 · exact h
 · rename_i hn
   have hn := Classical.not_not.1 hn; split
   · exact h
   · exact { h with ack0 := Int.le_trans h.ack0 hn.1.1, sent0 := hn.1.2, heard := ⟨Int.le_trans h.heard.1 hn.2.1, hn.2.2⟩ }
theorem OkSs.hear (h : OkSs s k) (now : Int) : OkSs (s.hear now).1 k := by
 unfold Ss.hear; split
 · exact h
 · rename_i hn
   have hn := Classical.not_not.1 hn; split
   · exact h
   · exact { h with heard := ⟨Int.le_trans h.heard.1 hn.1, hn.2⟩ }
theorem OkSs.close (h : OkSs s k) (why : Int) : OkSs (s.close why).1 k := by
 unfold Ss.close; split
 · exact h
 · rename_i hn
   have hn := Classical.not_not.1 hn; split
   · exact h
   · have h0 := h.next0
     exact { h with next0 := (by show s.sent + (mains [] : Nat) ≤ s.next; simp [mains]; omega), len := Nat.zero_le _, its := (fun x hx => by cases hx), bye := (fun h' => by cases h'), byeL := (fun b hb => by cases hb; exact ⟨raw_len _ (sd_bye why hn), frame_pos _⟩), empty := fun _ => rfl }
end
end Go.Proofs.YtoadjbgpfihoiaaGreatDoor
end
namespace Go.Proofs.YtoadjbgpfihoiaaGreatDoor
open Go.RowKit
section
open Ss
structure Lw (s : Ss) (fr : Int) (off : List En) : Prop where
 fr0 : 0 ≤ fr ∧ fr ≤ s.sent
 offN : s.next = fr + (off.length : Int)
 eq : s.closed = false → s.sent + (mains s.ring.items : Nat) = s.next
 most : s.sent - s.acked ≤ (s.ring.most : Int)
 its : ∀ x ∈ s.ring.items, ∃ y, sdB y = true ∧ x.bytes = rawS y ∧ (x.side = true → y.kind ≠ 9)
 ln : ∃ l : List Sd, ms s.ring.items = l.map rawS ∧ ∀ j (hj : j < l.length), sdB l[j] = true ∧ l[j].kind = 9 ∧ l[j].index = s.sent + (j : Int) ∧ off[(s.sent - fr).toNat + j]? = some l[j].e
 bye : ∀ b, s.bye = some b → ∃ y, sdB y = true ∧ b = rawS y ∧ y.kind ≠ 9
section
variable {s : Ss} {k : Nat} {fr : Int} {off : List En}
theorem Lw.new {member number fr most wait now : Int} (h : newOk member number fr most wait now = true) : Lw (newS member number fr most.toNat wait now) fr [] := by
 unfold newOk at h; simp only [Bool.and_eq_true, decide_eq_true_eq] at h; obtain ⟨⟨⟨⟨⟨h1, h2⟩, h3⟩, h4⟩, h5⟩, h6⟩ := h; refine ⟨⟨h4.1, Int.le_refl _⟩, by simp [newS], fun _ => by simp [newS, mains], by simp [newS]; omega, fun x hx => by simp [newS] at hx, ⟨[], by simp [newS, ms], fun j hj => by simp at hj⟩, fun b hb => by cases hb⟩
theorem Lw.putSide (h : Lw s fr off) (hk : OkSs s k) (x : It) (y : Sd) (hx : x.side = true) (hy : sdB y = true) (hb : x.bytes = rawS y) (h9 : y.kind ≠ 9) : Lw { s with ring := (s.ring.put x).1 } fr off := by
 have hl : x.bytes.length ≤ 484 := by rw [hb]; exact raw_len _ hy
 have hp := hk.put x hl; have hm := hp.other (fun h => by rw [hx] at h; cases h.1); refine { h with eq := fun hc => ?_, most := ?_, its := fun z hz => ?_, ln := ?_ }
 · show s.sent + (mains (s.ring.put x).1.items : Nat) = s.next
   rw [ms_mains hm]; exact h.eq hc
 · show s.sent - s.acked ≤ ((s.ring.put x).1.most : Int)
   rw [hp.most]; exact h.most
 · rcases hp.sub z hz with h' | rfl
   · exact h.its z h'
   · exact ⟨y, hy, hb, fun _ => h9⟩
 · show ∃ l : List Sd, ms (s.ring.put x).1.items = l.map rawS ∧ _
   rw [hm]; exact h.ln
theorem Lw.offer (h : Lw s fr off) (hk : OkSs s k) (i : Int) (e : En) (t : List UInt8) :
 Lw (s.offer i e t).1 fr (if (s.offer i e t).2 = 0 then off ++ [e] else off) ∧ ((s.offer i e t).2 = 0 → True) := by
 refine ⟨?_, fun _ => trivial⟩; unfold Ss.offer; split
 · exact h
 · rename_i hsd
   have hsd : sdB (lineS i e t) = true := by simpa using hsd
   split
   · exact h
   · rename_i hc
     have hc : s.closed = false := by simpa using hc
     split
     · exact h
     · rename_i hi
       have hi : i = s.next := Classical.not_not.1 hi; split
       · exact { h with }
       · rename_i hp0
         have hp0 : (s.ring.put ⟨false, 0, rawS (lineS i e t)⟩).2.2 = 0 := Classical.not_not.1 hp0; have hl := raw_len _ hsd; have hp := hk.put ⟨false, 0, rawS (lineS i e t)⟩ hl; by_cases hroom : mains s.ring.items < s.ring.most
         · have hm := (hp.got rfl rfl hroom).2
           have hmm := congrArg List.length hm; rw [ms_length, List.length_append, ms_length] at hmm; simp at hmm; have heq := h.eq hc; rw [if_pos rfl]; obtain ⟨l, hl1, hl2⟩ := h.ln; have hll : l.length = mains s.ring.items := by rw [← ms_length, hl1, List.length_map]
           have hof := h.offN; have hfr := h.fr0; refine ⟨h.fr0, ?_, fun _ => ?_, ?_, fun z hz => ?_, ⟨l ++ [lineS i e t], ?_, fun j hj => ?_⟩, h.bye⟩
           · show s.next + 1 = fr + ((off ++ [e]).length : Int)
             rw [List.length_append, List.length_singleton]; omega
           · show s.sent + (mains (s.ring.put ⟨false, 0, rawS (lineS i e t)⟩).1.items : Nat) = s.next + 1
             omega
           · show s.sent - s.acked ≤ ((s.ring.put ⟨false, 0, rawS (lineS i e t)⟩).1.most : Int)
             rw [hp.most]; exact h.most
           · rcases hp.sub z hz with h' | rfl
             · exact h.its z h'
             · exact ⟨_, hsd, rfl, fun h => by cases h⟩
           · show ms (s.ring.put ⟨false, 0, rawS (lineS i e t)⟩).1.items = _
             rw [hm, hl1, List.map_append]; rfl
           · rw [List.length_append, List.length_singleton] at hj
             by_cases hjl : j < l.length
             · rw [List.getElem_append_left hjl]
               obtain ⟨a1, a2, a3, a4⟩ := hl2 j hjl; refine ⟨a1, a2, a3, ?_⟩; rw [List.getElem?_append_left]
               · exact a4
               · exact (List.getElem?_eq_some_iff.1 a4).1
             · obtain rfl : j = l.length := by omega
               rw [List.getElem_append_right (Nat.le_refl _)]; simp only [Nat.sub_self, List.getElem_cons_zero]; refine ⟨hsd, rfl, ?_, ?_⟩
               · show i = s.sent + _
                 omega
               · show (off ++ [e])[(s.sent - fr).toNat + l.length]? = some e
                 have hidx : (s.sent - fr).toNat + l.length = off.length := by omega
                 rw [hidx, List.getElem?_append_right (Nat.le_refl _)]; simp
         · have := (hp.full rfl rfl hroom).1
           omega
theorem Lw.reach (h : Lw s fr off) (m : Int) : Lw (s.reach m).1 fr off := by
 unfold Ss.reach; split
 · exact h
 · split
   · exact h
   · exact { h with }
theorem Lw.beside (h : Lw s fr off) (hk : OkSs s k) (x : Sd) : Lw (s.beside x).1 fr off := by
 unfold Ss.beside; split
 · exact h
 · rename_i hb
   have hb : besOk x = true := by simpa using hb
   unfold besOk at hb; simp only [Bool.and_eq_true, Bool.or_eq_true, decide_eq_true_eq] at hb; split
   · exact h
   · exact h.putSide hk _ x rfl hb.2 rfl (by have := hb.1; omega)
theorem Lw.ack (h : Lw s fr off) (i now : Int) : Lw (s.ack i now).1 fr off := by
 unfold Ss.ack; split
 · exact h
 · rename_i hn
   have hn := Classical.not_not.1 hn; split
   · exact h
   · have hm := h.most
     exact { h with most := by show s.sent - i ≤ _; have := hn.1.1; show s.sent - i ≤ (s.ring.most : Int); omega }
theorem Lw.hear (h : Lw s fr off) (now : Int) : Lw (s.hear now).1 fr off := by
 unfold Ss.hear; split
 · exact h
 · split
   · exact h
   · exact { h with }
theorem Lw.close (h : Lw s fr off) (why : Int) : Lw (s.close why).1 fr off := by
 unfold Ss.close; split
 · exact h
 · rename_i hn
   have hn := Classical.not_not.1 hn; split
   · exact h
   · exact { h with eq := (fun h' => by cases h'), its := (fun x hx => by cases hx), ln := ⟨[], rfl, fun j hj => by simp at hj⟩, bye := fun b hb => by cases hb; exact ⟨_, sd_bye why hn, rfl, (by show (12 : Int) ≠ 9; decide)⟩ }
theorem Lw.take (h : Lw s fr off) (b : List UInt8) (hb : s.take.2 = some b) : ∃ y, sdB y = true ∧ b = rawS y ∧ Lw s.take.1 fr off ∧
 ((y.kind ≠ 9 ∧ s.take.1.sent = s.sent) ∨ (y.kind = 9 ∧ y.index = s.sent ∧ off[(s.sent - fr).toNat]? = some y.e ∧ s.take.1.sent = s.sent + 1)) := by
 unfold Ss.take at hb ⊢; by_cases hc : s.closed = true
 · rw [if_pos hc] at hb ⊢
   obtain ⟨y, h1, h2, h3⟩ := h.bye b hb; exact ⟨y, h1, h2, { h with bye := fun b hb => by cases hb }, .inl ⟨h3, rfl⟩⟩
 · rw [if_neg hc] at hb ⊢
   have hc : s.closed = false := by simpa using hc
   by_cases hw : s.waits = true
   · rw [if_pos hw] at hb; cases hb
   · rw [if_neg hw] at hb ⊢
     cases hi : s.ring.items with
     | nil => rw [hi] at hb; cases hb
     | cons x r =>
       rw [hi] at hb; dsimp only at hb ⊢; obtain rfl := Option.some.inj hb; obtain ⟨y, y1, y2, y3⟩ := h.its x (by rw [hi]; exact List.mem_cons_self ..); obtain ⟨l, l1, l2⟩ := h.ln; have heq := h.eq hc; have hfr := h.fr0; have hits : ∀ z ∈ r, ∃ y, sdB y = true ∧ z.bytes = rawS y ∧ (z.side = true → y.kind ≠ 9) := fun z hz => h.its z (by rw [hi]; exact List.mem_cons_of_mem _ hz)
       cases hs : x.side with
       | true =>
         have hm : ms s.ring.items = ms r := by rw [hi]; exact ms_side _ _ hs
         refine ⟨y, y1, y2, ⟨?_, h.offN, fun _ => ?_, ?_, hits, ⟨l, ?_, ?_⟩, h.bye⟩, .inl ⟨y3 hs, by simp⟩⟩
         · simpa using hfr
         · have := ms_mains hm
           show s.sent + (if true = true then 0 else 1) + (mains r : Nat) = s.next
           rw [if_pos rfl]; omega
         · simpa using h.most
         · show ms r = _
           rw [← hm, l1]
         · simpa using l2
       | false =>
         have hm : ms s.ring.items = x.bytes :: ms r := by rw [hi]; simp [ms, hs]
         cases l with
         | nil => rw [hm] at l1; cases l1
         | cons z l =>
           rw [hm, List.map_cons] at l1; obtain ⟨e1, e2⟩ := List.cons.inj l1; obtain ⟨z1, z2, z3, z4⟩ := l2 0 (by simp); simp only [List.getElem_cons_zero, Nat.add_zero] at z1 z2 z3 z4; have hmm := congrArg List.length hm; rw [ms_length, List.length_cons, ms_length] at hmm
           have hw' : s.sent - s.acked < (s.ring.most : Int) := by
            unfold Ss.waits at hw; rw [hi] at hw; simp [hs] at hw; omega
           refine ⟨z, z1, e1, ⟨?_, h.offN, fun _ => ?_, ?_, hits, ⟨l, e2, fun j hj => ?_⟩, h.bye⟩, .inr ⟨z2, ?_, z4, by simp⟩⟩
           · show 0 ≤ fr ∧ fr ≤ s.sent + (if false = true then 0 else 1)
             simp; omega
           · show s.sent + (if false = true then 0 else 1) + (mains r : Nat) = s.next
             simp; omega
           · show s.sent + (if false = true then 0 else 1) - s.acked ≤ (s.ring.most : Int)
             simp; omega
           · obtain ⟨a1, a2, a3, a4⟩ := l2 (j + 1) (by simp; omega)
             simp only [List.getElem_cons_succ] at a1 a2 a3 a4; refine ⟨a1, a2, ?_, ?_⟩
             · show l[j].index = s.sent + (if false = true then 0 else 1) + (j : Int)
               rw [a3]; simp; omega
             · show off[(s.sent + (if false = true then 0 else 1) - fr).toNat + j]? = _
               rw [← a4]; congr 1
               simp; omega
           · rw [z3]; simp
theorem Lw.take0 (h : Lw s fr off) (hb : s.take.2 = none) : Lw s.take.1 fr off ∧ s.take.1.sent = s.sent := by
 unfold Ss.take at hb ⊢; by_cases hc : s.closed = true
 · rw [if_pos hc]
   exact ⟨{ h with bye := fun b hb => by cases hb }, rfl⟩
 · rw [if_neg hc] at hb ⊢
   by_cases hw : s.waits = true
   · rw [if_pos hw]; exact ⟨h, rfl⟩
   · rw [if_neg hw] at hb ⊢
     cases hi : s.ring.items with
     | nil => exact ⟨h, rfl⟩
     | cons x r => rw [hi] at hb; cases hb
theorem Lw.queued (h : OkSs s k) : s.queued ≤ (s.ring.most : Int) := by
 unfold Ss.queued; have h1 := h.most; have h2 := h.len; split <;> omega
end
end
end Go.Proofs.YtoadjbgpfihoiaaGreatDoor
