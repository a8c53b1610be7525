/- Texts Raw, Parse, WkP, DocRaw, IterA, Read, one behind the other. Conditions: as each says. -/
import Derived.Test.YtoadjbgpfihoiaaGreatDoorPlV
import Derived.Test.YtoadjbgpfihoiaaGreatDoorPlZI
set_option linter.unusedVariables false
set_option linter.unusedSimpArgs false
set_option maxHeartbeats 8000000
set_option maxRecDepth 100000
namespace Go.Proofs.YtoadjbgpfihoiaaGreatDoor
open Go.RowKit
theorem partsOf_kind {k : Int} {ps : List Part} (h : partsOf k = some ps) : 1 ≤ k ∧ k ≤ 12 := by
 by_cases hk : 1 ≤ k ∧ k ≤ 12
 · exact hk
 · exfalso
   unfold partsOf at h; rw [if_neg (by omega), if_neg (by omega), if_neg (by omega), if_neg (by omega), if_neg (by omega), if_neg (by omega), if_neg (by omega), if_neg (by omega), if_neg (by omega), if_neg (by omega), if_neg (by omega), if_neg (by omega)] at h; cases h
theorem partsOf_num {k n : Int} {ps : List Part} (h : partsOf k = some ps) (hm : Part.number n ∈ ps) : 0 ≤ n := by
 have hk := partsOf_kind h; obtain rfl | rfl | rfl | rfl | rfl | rfl | rfl | rfl | rfl | rfl | rfl | rfl : k = 1 ∨ k = 2 ∨ k = 3 ∨ k = 4 ∨ k = 5 ∨ k = 6 ∨ k = 7 ∨ k = 8 ∨ k = 9 ∨ k = 10 ∨ k = 11 ∨ k = 12 := by omega
 all_goals
  simp [partsOf] at h; subst h; simp at hm
 all_goals omega
theorem raw_ok (W w : World) (hT : Tabs W) (hE : Ext W w) (s : Sd) (hs : OkS s) (hb : sdB s = true) :
 Calls Tryz.prog 92 #[s.v] w fun e w' => ∃ v, e = .returned (.tuple #[v, .int .i64 0]) ∧ Upd NoB w w' (bytR v (frameL (bodyL s))) := by
 obtain ⟨ps, hps, hall⟩ : ∃ ps, partsOf s.kind = some ps ∧ (ps.all fun p => p.may s) = true := by
  unfold sdB at hb; cases hp : partsOf s.kind with
  | none => rw [hp] at hb; cases hb
  | some ps => rw [hp] at hb; dsimp only at hb; rw [Bool.and_eq_true] at hb; exact ⟨ps, rfl, hb.2⟩
 have hkk := partsOf_kind hps; obtain ⟨kd, hkd⟩ : ∃ kd : Nat, s.kind = kd := ⟨s.kind.toNat, by omega⟩; have HKD := Hd (show s.kind = (kd : Int) ∧ kd ≤ 12 ∧ I64 s.kind from ⟨hkd, by omega, by unfold I64; omega⟩); have hbod : bodyL s = numL kd ++ (ps.map fun p => p.lay s).flatten := by unfold bodyL; rw [hps, hkd]; rfl
 have HBO := Hd hbod; have hpl := partsOf_len s.kind; rw [hps] at hpl; have HPL := Hd (show ps.length ≤ 3 from hpl); have HPS := Hd (show (partsOf s.kind).getD [] = ps by rw [hps]; rfl); have HNU := Hd (fun n (hm : Part.number n ∈ ps) => partsOf_num hps hm); have HAL := Hd (List.all_eq_true.1 hall); have HM := Hd (Mem.start0 w); have HE := Hd hE; have HC := Hd (show chkI s = 0 by unfold chkI; rw [hb]; rfl); have HV := Hd (show s.v = .agg #[.int .i64 s.kind, .int .i64 s.member, .int .i64 s.number, .int .i64 s.index, .bool s.is, .string (bs s.text), .string (bs s.token), .int .i64 s.e.kind, .int .i64 s.e.member, .int .i64 s.e.number, .string (bs s.e.text)] from rfl); rw [HV.out]; clear hE hb hps hall hkk hkd hbod hpl; go_enter Tryz.func92, Tryz.ntmps92
 have fM := HM.out.fa; go_wp2_with fail; all_goals clear fM
 obtain ⟨ks, hks⟩ : ∃ k, w.heap.size = k := ⟨_, rfl⟩; refine nxt HM fun w1 M => ?_
 replace HM := M; clear M; rw [hks] at HM ⊢; clear hks; rw [← HV.out]; refine (check_any W w1 hT (HE.out.ext HM.out.extTo) s hs HKD.out.2.2).mono ?_; rintro e w2 ⟨rfl, hE2⟩; rw [HC.out]; replace HM := Hd (HM.out.ext hE2); clear hE2; rw [HV.out]; have fM := HM.out.fa; go_wp2_with fail; all_goals clear fM
 refine nxt HM fun w2 M => ?_
 replace HM := M; clear M; refine (writer_new w2).mono ?_; rintro e w3 ⟨wb, rfl, hU⟩; obtain ⟨F2, u1, u2, u3⟩ := hU; replace HM := Hd (HM.out.new (G := F2) u2 u1 (fun k hk => (u3 k hk).elim (fun h => (noB _ h).elim) id)); clear u1 u2 u3 F2; have fM := HM.out.fa; go_wp2_with fail; all_goals clear fM
 obtain ⟨q, hq⟩ : ∃ q, w3.heap.size = q := ⟨_, rfl⟩; refine nxt HM fun w4 M => ?_
 replace HM := M; clear M; rw [hq] at HM ⊢; clear hq; obtain ⟨C, hC, hn, hbx, hS⟩ := HM.out.apart1 (r := writerR wb []) (b := q) (cs := [.int .i64 s.kind]) (by with_reducible repeat first | exact ph | apply pt) (by with_reducible repeat first | exact ph | apply pt); rw [HKD.out.1] at hbx; refine (wnumber_any w4 wb q [] [kd] (by simp) (by simp) hbx hn (by have := HKD.out.2.1; unfold topN; simp; omega) hC).mono ?_; rintro e w5 ⟨rfl, hU⟩; rw [numsL_one, List.nil_append] at hU; replace HM := Hd (hS _ _ hU); clear hC hn hbx hS hU C; have fM := HM.out.fa; go_wp2_with fail; all_goals clear fM
 refine nxt HM fun w6 M => ?_
 replace HM := M; clear M; have fM := HM.out.fa; have hE0 : Keeps NoB w6 w6.drew := (Keeps.refl _ _).drew; refine rgE [(0, 1), (1, 2), (0, 5), (2, 0)] [2] [0, 3, 4] [3, 4] ?_; simp only [planL, nL]; refine pR rfl (fun W => by go_simp <;> with_reducible rfl) ?_; simp only [nP]; refine pL rfl (fun W => by go_simp <;> with_reducible rfl) ?_; simp only [nP]; refine pM _ rfl rfl ?_; simp only [nP, Act.eval]; refine plan_does rfl (fun K hK => ?_); go_wp2_with fail; refine (kinds_any _).mono ?_; rintro e w7 ⟨m, rfl, hU⟩; obtain ⟨F2, u1, u2, u3⟩ := hU; have hE2 := hE0.ext u2; obtain ⟨v, hlk, hpv⟩ := kinds_look u1 s.kind HKD.out.2.2 false; replace HM := Hd (HM.out.new (r := partsR v ((partsOf s.kind).getD [])) (G := F2) hE2 hpv (fun k hk => (u3 k hk).elim (fun h => (noB _ h).elim) id)); simp only [Bool.false_eq_true, if_false] at hlk; rw [HPS.out] at HM; obtain ⟨a, rfl⟩ := (HM.out.fact fun A h => parts_len h); clear u1 u2 u3 hpv; clear F2; refine hK _ _ ⟨ClsE.of (by assumption), ?_⟩; clear hK K; try simp only [nP]
 refine plan_nil ?_; simp only [tailL, List.filterMap_cons, List.filterMap_nil, nL]; change wpList _ _ _ (_ :: _ :: []) _ _; have fM := HM.out.fa; go_wp2_with fail; all_goals clear fM
 clear hlk hE2 hE0; clear fM
 have hs0 : Mem NoB w w7 [writerR wb (numL kd ++ ((ps.take 0).map fun p => p.lay s).flatten), cellsR ks 37 s.cells, partsR (.slice a ps.length ps.length) ps] := by
  rw [List.take_zero, List.map_nil, List.flatten_nil, List.append_nil]; exact Mem.sub HM.out sbI
 replace HM := Hd hs0; clear hs0; go_loopw [24] (fun i wr => ∃ j : Nat, j ≤ ps.length ∧ i = .int .i64 j ∧ Hid ((((ps.take j).map fun p => p.lay s).flatten).length ≤ j * 300) ∧ Hid (Mem NoB w wr [writerR wb (numL kd ++ ((ps.take j).map fun p => p.lay s).flatten), cellsR ks 37 s.cells, partsR (.slice a ps.length ps.length) ps])) (fun i _ => ps.length - (intOf i).toNat)
 case atStart => exact ⟨0, Nat.zero_le _, rfl, Hd (by simp), HM⟩
 case round =>
  clear HM; obtain ⟨j, hj, rfl, HLE, HM⟩ := hrel; have hpl := HPL.out; by_cases hlt : j < ps.length
  · have g1 : (j : Int) < ps.length := by omega
    have g2 : ¬ (j : Int) < 0 := by omega
    obtain ⟨Ahp, hp⟩ := HM.out.get (r := partsR (.slice a ps.length ps.length) ps) pk; obtain ⟨k, -, hat⟩ := parts_at' hp; obtain ⟨qq, rfl, hq, c0, c1, c2, c3⟩ := hat j hlt; have HIN := Hd (List.getElem_mem hlt); have HF := Hd (show (((ps.take (j + 1)).map fun p => p.lay s).flatten) = ((ps.take j).map fun p => p.lay s).flatten ++ ps[j].lay s by rw [List.take_succ_eq_append_getElem hlt, List.map_append, List.flatten_append]; simp); obtain ⟨p, hpj⟩ : ∃ p, ps[j] = p := ⟨_, rfl⟩; rw [hpj] at c0 c1 c2 c3 HF HIN; obtain ⟨l, hl⟩ : ∃ l, ((ps.take j).map fun p => p.lay s).flatten = l := ⟨_, rfl⟩; rw [hl] at HF HM HLE; have hen := lay_enters p; clear hp hat hpj hl; unfold Sd.cells at HM; have fM := HM.out.fa; go_wp2_with fail; all_goals clear fM
    refine nxt HM fun w8 M => ?_
    replace HM := M; clear M; rw [← HV.out]; obtain ⟨C, hC, hS⟩ := (HM.out.pick (r := writerR wb (numL kd ++ l)) pk).step; have hll := numL_len kd; refine (lay_any w8 wb (numL kd ++ l) p s (by rw [List.length_append]; have := HLE.out; omega) (HAL.out p HIN.out) (fun n hn => HNU.out n (by rw [← hn]; exact HIN.out)) hC).mono ?_; rintro e w9 ⟨rfl, hU⟩; rw [HV.out]; replace HM := Hd (hS _ _ hU); clear hU hS hC C hen c0 c1 c2 c3 hll; go_wp2_with fail; go_roundw
    case rel =>
     refine ⟨j + 1, by omega, by go_num, Hd ?_, Hd ?_⟩
     · have := Part.lay_len p s (HAL.out p HIN.out)
       rw [HF.out, List.length_append]; have := HLE.out; omega
     · rw [HF.out, ← List.append_assoc]
       exact Mem.sub HM.out sbI
    case measure => simp [intOf]; omega
  · obtain rfl : j = ps.length := by omega
    rw [List.take_length] at HM HLE; rw [← HBO.out] at HM; have HBL := Hd (show (bodyL s).length ≤ 1000 by rw [HBO.out, List.length_append]; have := HLE.out; have := numL_len kd; omega); go_wp2_with fail; obtain ⟨Ahwb, hwb⟩ := HM.out.get (r := writerR wb (bodyL s)) pk; refine (wall_any wr wb (bodyL s) (by have := HBL.out; omega) hwb).mono ?_; rintro e w8 ⟨v1, rfl, hw1, hE8⟩; have hb1 := hw1.bytes; replace HM := Hd (HM.out.ext hE8); clear hwb; go_wp2_with fail; refine (frame_any w8 v1 (bodyL s) hb1 (fun k hk => hk.2) (by have := HBL.out; omega)).mono ?_; rintro e w9 ⟨v2, rfl, hU⟩; obtain ⟨F2, u1, u2, u3⟩ := hU; replace HM := Hd (HM.out.new (G := F2) u2 u1 (fun k hk => (u3 k hk).elim (fun h => (noB _ h).elim) id)); clear u1 u2 u3 hb1 hw1 hE8; clear F2; go_wp2_with fail; go_ret2
    exact ⟨_, rfl, (HM.out.pick (r := bytR v2 (frameL (bodyL s))) pk).upd⟩
theorem results_cell2 {fn : Func} {r q : Nat} {ty tz : TypeId} (hr : fn.results = #[.cell r ty, .cell q tz]) (t t' : Array Value) (h : t.getD r undef = t'.getD r undef) (h2 : t.getD q undef = t'.getD q undef) : results fn t = results fn t' := by
 unfold results; rw [hr]; simp only [List.mapM_toArray, List.mapM_cons, List.mapM_nil, h, h2]
theorem put_results2 {P : Program} {fn : Func} (r q : Nat) (hr : ∀ t t' : Array Value, t.getD r undef = t'.getD r undef → t.getD q undef = t'.getD q undef → results fn t = results fn t') {l : List Oper} (hl : (l.all fun o => o.dst != some r) = true) (hl2 : (l.all fun o => o.dst != some q) = true) {R : Ending → World → Prop} :
 ∀ c a w (o : Oper) v, o ∈ l → bodyPostD P fn R (.panic c) (Act.put a o.dst v) w → bodyPostD P fn R (.panic c) a w := by
 intro c a w o v ho h; have hne := List.all_eq_true.1 hl o ho; have hne2 := List.all_eq_true.1 hl2 o ho; cases hd : o.dst with
 | none => rw [hd] at h; exact h
 | some d =>
   rw [hd] at h hne hne2; have hdr : d ≠ r := by simpa using hne
   have hdq : d ≠ q := by simpa using hne2
   have h' : Leaves P fn (a.tmps.set! d v) R a.defers (.panicking c) w := h; rw [leaves_congr (t' := a.tmps) (hr _ _ (by simp [Array.getD_eq_getD_getElem?, Array.getElem?_setIfInBounds, hdr]) (by simp [Array.getD_eq_getD_getElem?, Array.getElem?_setIfInBounds, hdq]))] at h'; exact h'
theorem assert_errno (w : World) (n : Int) : (Instr.typeAssert (.iface 24 (.int .i64 n)) 20 24 false).run Tryz.prog w = .ok (.int .i64 n) w := by kernel_rfl
theorem parse1_none (w : World) (ks ke : Nat) :
 CallsD Tryz.prog 231 #[.pointer (some ⟨ks, 0, none⟩), .pointer (some ⟨ke, 0, none⟩)] .returning w fun e u' w' => e = .returned (.tuple #[]) ∧ u' = .returning ∧ w' = w := by
 refine callsD_of_wpS Tryz.func231 rfl fun c₀ cs hu => ?_
 simp only [Tryz.ntmps231, List.size_toArray, List.length_cons, List.length_nil, Nat.reduceAdd, Nat.reduceSub, Array.replicate_succ, Array.replicate_zero, List.push_toArray, List.append_toArray, List.nil_append, List.cons_append]; apply wpS_seq
 apply wpS_region
 simp [wpOpsS, go_sem, recoverD, hu, Exit.thenS]; refine wpS_of_wp ?_; go_wp2_with fail; cases c₀
 simp_all [bodyPostS, results, Tryz.results231]
theorem parse1_said {A : Nat → Prop} (w : World) (ks ke : Nat) (s : Sd) (z : Int) (older : List PanicEntry) (h : SepL [cellsR ks 37 s.cells, cellsR ke 24 [.int .i64 z]] A w) :
 CallsD Tryz.prog 231 #[.pointer (some ⟨ks, 0, none⟩), .pointer (some ⟨ke, 0, none⟩)] (.panicking ({ v := .iface 24 (.int .i64 340), recovered := false } :: older)) w fun e u' w' =>
  e = .returned (.tuple #[]) ∧ u' = .panicking ({ v := .iface 24 (.int .i64 340), recovered := true } :: older) ∧ Upd A w w' (listR [cellsR ks 37 (Sd.of 0).cells, cellsR ke 24 [.int .i64 340]]) := by
 have HM := Hd (Mem.start (F := A) (r := listR [cellsR ks 37 s.cells, cellsR ke 24 [.int .i64 z]]) h).unlist; simp only [List.cons_append, List.nil_append] at HM; unfold Sd.cells at HM; clear h; refine callsD_of_wpS Tryz.func231 rfl fun c₀ cs hu => ?_
 simp only [Tryz.ntmps231, List.size_toArray, List.length_cons, List.length_nil, Nat.reduceAdd, Nat.reduceSub, Array.replicate_succ, Array.replicate_zero, List.push_toArray, List.append_toArray, List.nil_append, List.cons_append]; apply wpS_seq
 apply wpS_region
 simp [wpOpsS, go_sem, recoverD, hu, Exit.thenS]; refine wpS_of_wp ?_; have ha := fun w => assert_errno w 340
 have fM := HM.out.fa; go_wp2_with fail; all_goals clear fM
 have fM := HM.out.fa; have hE0 : Keeps NoB w w.drew := (Keeps.refl _ _).drew; refine rgE [(0, 0), (0, 1), (0, 2)] [] [3, 4] [3, 4] ?_; simp only [planL, nL]; iterate 3 (first | (refine pM _ rfl rfl ?_; simp only [nP, nE]) | (refine pR (by rfl) (fun W => by go_simp <;> with_reducible rfl) ?_; simp only [nP]))
 refine plan_nil ?_; simp only [tailL, List.filterMap_cons, List.filterMap_nil, nL]; change wpList _ _ _ (_ :: _ :: []) _ _; clear hE0; go_wp2_with fail; clear fM; refine ⟨rfl, _, rfl, .tuple #[], ?_, rfl, rfl, ?_⟩
 · simp [results, Tryz.results231]
 refine nxt HM fun w1 M => ?_
 replace HM := M; clear M; have hm : Mem A w w1 [cellsR ke 24 [.int .i64 340], cellsR ks 37 (Sd.of 0).cells] := HM.out; exact (Mem.list' (L1 := [cellsR ks 37 (Sd.of 0).cells, cellsR ke 24 [.int .i64 340]]) (L := []) (Mem.sub hm (by repeat first | exact Sub.nil | refine Sub.cons (by with_reducible repeat first | exact ph | apply pt) ?_))).upd
theorem Part.take_ok (p : Part) (r : Rdr) (s : Sd) (h : OkS s) : OkS (p.take r s).2 ∧ (p.take r s).2.kind = s.kind := by
 obtain ⟨h1, h2, h3, h4⟩ := h; cases p <;> unfold Part.take
 · exact ⟨⟨h1, h2, h3, h4⟩, rfl⟩
 · exact ⟨⟨h1, h2, h3, h4⟩, rfl⟩
 · exact ⟨⟨h1, h2, h3, h4⟩, rfl⟩
 · exact ⟨⟨h1, h2, h3, h4⟩, rfl⟩
 · have := r.txt_lt 200 (by decide)
   exact ⟨⟨h1, by dsimp only; omega, h3, h4⟩, rfl⟩
 · have := r.txt_lt 200 (by decide)
   exact ⟨⟨h1, h2, by dsimp only; omega, h4⟩, rfl⟩
 · dsimp only
   have hk := r.num_lt 4 (by decide); have ht := (((r.num 4).1.num 15).1.num 2147483647).1.txt_lt 200 (by decide); have hI : I64 ((r.num 4).2.1 : Int) := by unfold I64; constructor <;> omega
   split
   · exact ⟨⟨hI, h2, h3, by dsimp only; omega⟩, rfl⟩
   · exact ⟨⟨hI, h2, h3, h4⟩, rfl⟩
theorem takeAll_snoc (ps : List Part) (r : Rdr) (s : Sd) (j : Nat) (h : j < ps.length) : takeAll (ps.take (j + 1)) r s = ps[j].take (takeAll (ps.take j) r s).1 (takeAll (ps.take j) r s).2 := by
 unfold takeAll; rw [List.take_succ_eq_append_getElem h, List.foldl_append]; rfl
theorem takeAll_app (ps qs : List Part) (r : Rdr) (s : Sd) : takeAll (ps ++ qs) r s = takeAll qs (takeAll ps r s).1 (takeAll ps r s).2 := by
 unfold takeAll; rw [List.foldl_append]
theorem takeAll_bad (ps : List Part) (r : Rdr) (s : Sd) (j : Nat) (h : (takeAll (ps.take j) r s).1.e ≠ 0) : (takeAll ps r s).1.e ≠ 0 := by
 have := takeAll_app (ps.take j) (ps.drop j) r s; rw [List.take_append_drop] at this; rw [this]; exact takeAll_sticky _ _ h
theorem parse_any {A : Nat → Prop} (W w : World) (hT : Tabs W) (hE : Ext W w) (v : Value) (l : List UInt8) (h : Bytes w A v l) (hl : l.length ≤ 70368744177664) :
 Calls Tryz.prog 195 #[v] w fun e w' => e = .returned (.tuple #[(parseL l).1.v, .int .i64 (parseL l).2]) ∧ Ext w w' := by
 have HM := Hd (Mem.start0 w); have HE := Hd hE; have HB := Hd h; have HLL := Hd hl; have hmf : ∀ (fn : Fn) (first cap : Array Value) (w : World), (Instr.makeFunc fn first cap).run Tryz.prog w = .ok (.func fn first cap) w := fun _ _ _ _ => rfl
 obtain ⟨P, hP⟩ : ∃ P, parseL l = P := ⟨_, rfl⟩; rw [hP]; have HPL := Hd hP; clear hE h hl hP; go_enter_defers Tryz.func195, Tryz.ntmps195
 have fM := HM.out.fa; go_wp2_with fail; all_goals clear fM
 refine nxt HM fun w1 M => ?_
 replace HM := M; clear M; obtain ⟨ks, hks⟩ : ∃ k, w.heap.size = k := ⟨_, rfl⟩; obtain ⟨ke, hke⟩ : ∃ k, w.heap.size + 1 = k := ⟨_, rfl⟩; rw [hke, hks] at HM ⊢; clear hke hks; have hm0 : Mem NoB w w1 [cellsR ke 24 [.int .i64 0], cellsR ks 37 (Sd.of 0).cells] := HM.out; replace HM := Hd hm0; clear hm0; refine (read_any w1 v l (HB.out.keeps HM.out.extTo fun _ _ => noB _) HLL.out).mono ?_; rintro e w2 ⟨b, rfl, hU⟩; obtain ⟨F2, u1, u2, u3⟩ := hU; replace HM := Hd (HM.out.new (r := readerR b ⟨l, 0⟩) (G := F2) u2 u1 (fun k hk => (u3 k hk).elim (fun h => (noB _ h).elim) id)); clear u1 u2 u3; clear F2; have fM := HM.out.fa; go_wp2_with fail; all_goals clear fM
 refine nxt HM fun w3 M => ?_
 replace HM := M; clear M; obtain ⟨kq, hkq⟩ : ∃ k, w2.heap.size = k := ⟨_, rfl⟩; rw [hkq] at HM ⊢; clear hkq; have hno := (⟨l, 0⟩ : Rdr).num_e' 12 (by decide); have hnl := (⟨l, 0⟩ : Rdr).num_len 12; have hnt := (⟨l, 0⟩ : Rdr).num_lt 12 (by decide); obtain ⟨C, hC, hS⟩ := (HM.out.pick (r := readerR b ⟨l, 0⟩) pk).step; refine (fnum_any w3 b ⟨l, 0⟩ 12 (by decide) HLL.out hC).mono ?_; rintro e w4 ⟨rfl, hU⟩; replace HM := Hd (hS _ _ hU); clear hU hS hC C
 have HPQ := Hd (show P = (let x := takeAll ((partsOf ((⟨l, 0⟩ : Rdr).num 12).2.1).getD []) ((⟨l, 0⟩ : Rdr).num 12).1 (Sd.of ((⟨l, 0⟩ : Rdr).num 12).2.1)
  if ((⟨l, 0⟩ : Rdr).num 12).2.2 = 0 ∧ x.1.e = 0 ∧ x.1.b = [] ∧ sdB x.2 = true then (x.2, 0) else (Sd.of 0, 340)) from HPL.out.symm)
 obtain ⟨⟨r1, n, no⟩, hq⟩ : ∃ q, (⟨l, 0⟩ : Rdr).num 12 = q := ⟨_, rfl⟩; rw [hq] at HM HPQ hno hnl hnt ⊢; dsimp only at HM HPQ hno hnl hnt ⊢; subst hno; clear hq HPL; have HNL := Hd (show r1.b.length ≤ 70368744177664 from Nat.le_trans hnl HLL.out); clear hnl; by_cases he : r1.e = 0
 case neg =>
  have HQ := Hd (show P = (Sd.of 0, 340) by rw [HPQ.out, if_neg (fun h => he h.1)]); rw [if_neg he]; unfold saidE; clear he HPQ hnt; replace HM := Hd (Mem.list' (L1 := [cellsR ks 37 (Sd.of 0).cells, cellsR ke 24 [.int .i64 0]]) (L := [readerR b r1]) (Mem.sub HM.out (by repeat first | exact Sub.nil | refine Sub.cons (by with_reducible repeat first | exact ph | apply pt) ?_))); obtain ⟨Bc, hBc, hSc⟩ := HM.out.step; refine leaves_cons (f := 231) (args := #[.pointer (some ⟨ks, 0, none⟩), .pointer (some ⟨ke, 0, none⟩)]) (by intro h; cases h) (enters_of Tryz.func231 (by kernel_rfl) rfl _ _) ?_; refine (parse1_said _ ks ke _ 0 [] hBc).mono ?_; rintro e u wq ⟨rfl, rfl, hUc⟩; replace HM := Hd (hSc _ _ hUc).unlist; simp only [List.cons_append, List.nil_append] at HM; show Leaves _ _ _ _ [] .returning _
  clear hUc hSc hBc Bc; obtain ⟨Ahb, hb⟩ := HM.out.get (r := cellsR ks 37 (Sd.of 0).cells) pk; obtain ⟨Ahe, he⟩ := HM.out.get (r := cellsR ke 24 [.int .i64 340]) pk; have hb1 : Box wq ks 37 [.int .i64 0, .int .i64 0, .int .i64 0, .int .i64 0, .bool false, .string ⟨#[]⟩, .string ⟨#[]⟩, .int .i64 0, .int .i64 0, .int .i64 0, .string ⟨#[]⟩] := hb.2; have hc := hb1.reads.1; have hd := he.2.reads.1; refine ⟨.tuple #[.agg #[.int .i64 0, .int .i64 0, .int .i64 0, .int .i64 0, .bool false, .string ⟨#[]⟩, .string ⟨#[]⟩, .int .i64 0, .int .i64 0, .int .i64 0, .string ⟨#[]⟩], .int .i64 340], ?_, ?_, HM.out.extTo⟩
  · simp [results, Tryz.results195, go_sem, hc, hd]
  · rw [HQ.out]; rfl
 rw [if_pos he]; have HE1 := Hd he; clear he; have fM := HM.out.fa; go_wp2_with fail; all_goals clear fM
 refine nxt HM fun w5 M => ?_
 replace HM := M; clear M; have hni : I64 (n : Int) := by unfold I64; constructor <;> omega
 have HNI := Hd hni; have HNT := Hd hnt; clear hni hnt; have fM := HM.out.fa; have hE0 : Keeps NoB w5 w5.drew := (Keeps.refl _ _).drew; refine wp_region_planD [(0, 1), (1, 2), (0, 5), (2, 0)] [2] [0, 3, 4] [3, 4] (ClsE w5) (by kernel_rfl) (by kernel_rfl) (by kernel_rfl) rfl rfl (ClsE.of hE0) (put_results2 2 3 (results_cell2 Tryz.results195) (by kernel_rfl) (by kernel_rfl)) ?_; simp only [planL, nL]; refine pR rfl (fun W => by go_simp <;> with_reducible rfl) ?_; simp only [nP]; refine pL rfl (fun W => by go_simp <;> with_reducible rfl) ?_; simp only [nP]; refine pM _ rfl rfl ?_; simp only [nP, Act.eval]; refine plan_does rfl (fun K hK => ?_); go_wp2_with fail; refine (kinds_any _).mono ?_; rintro e w6 ⟨m, rfl, hU⟩; obtain ⟨F2, u1, u2, u3⟩ := hU; have hE2 := hE0.ext u2; obtain ⟨pv, hlk, hpv⟩ := kinds_look u1 (n : Int) HNI.out false; replace HM := Hd (HM.out.new (r := partsR pv ((partsOf (n : Int)).getD [])) (G := F2) hE2 hpv (fun k hk => (u3 k hk).elim (fun h => (noB _ h).elim) id)); simp only [Bool.false_eq_true, if_false] at hlk; clear u1 u2 u3 hpv; clear F2; refine hK _ _ ⟨ClsE.of (by assumption), ?_⟩; clear hK K; try simp only [nP]
 refine plan_nil ?_; simp only [tailL, List.filterMap_cons, List.filterMap_nil, nL]; change wpList _ _ _ (_ :: _ :: []) _ _; clear fM; have hpl := partsOf_len (n : Int); obtain ⟨ps, hps⟩ : ∃ ps, (partsOf (n : Int)).getD [] = ps := ⟨_, rfl⟩; rw [hps] at HM HPQ hpl; clear hps; obtain ⟨Ahp, hp⟩ := HM.out.get (r := partsR pv ps) pk; obtain ⟨a, rfl⟩ := parts_len hp; clear hE0 hE2 hp; have fM := HM.out.fa; go_wp2_with fail; all_goals clear fM
 clear hlk; obtain ⟨s0, hs⟩ : ∃ s, Sd.of (n : Int) = s := ⟨_, rfl⟩; have hsk : s0.kind = n := by rw [← hs]; rfl
 have hso : OkS s0 := by rw [← hs]; exact ⟨i64_lit 0 rfl, Nat.zero_le _, Nat.zero_le _, Nat.zero_le _⟩
 have hm0 : Mem NoB w w6 [partsR (.slice a ps.length ps.length) ps, cellsR ks 37 (Sd.of (n : Int)).cells, readerR b r1, cellsR kq 311 [.pointer (some ⟨b, 0, none⟩)], cellsR ke 24 [.int .i64 0]] := HM.out; rw [hs] at hm0 HPQ; replace HM := Hd hm0; clear hm0 hs; go_loopw [19] (fun i wr => ∃ j : Nat, j ≤ ps.length ∧ i = .int .i64 j ∧ ∃ rj sj, Hid (takeAll (ps.take j) r1 s0 = (rj, sj) ∧ OkS sj ∧ sj.kind = n) ∧ Hid (rj.e = 0) ∧ Hid (rj.b.length ≤ 70368744177664) ∧ Hid (Mem NoB w wr [partsR (.slice a ps.length ps.length) ps, cellsR ks 37 sj.cells, readerR b rj, cellsR kq 311 [.pointer (some ⟨b, 0, none⟩)], cellsR ke 24 [.int .i64 0]])) (fun i _ => ps.length - (intOf i).toNat)
 case atStart => exact ⟨0, Nat.zero_le _, rfl, r1, s0, Hd ⟨rfl, hso, hsk⟩, HE1, HNL, HM⟩
 case round =>
  clear HM; obtain ⟨j, hj, rfl, rj, sj, HT, HEJ, HLJ, HM⟩ := hrel; by_cases hlt : j < ps.length
  · have g1 : (j : Int) < ps.length := by omega
    have g2 : ¬ (j : Int) < 0 := by omega
    obtain ⟨Ahp, hp⟩ := HM.out.get (r := partsR (.slice a ps.length ps.length) ps) pk; obtain ⟨k, -, hat⟩ := parts_at' hp; obtain ⟨q, rfl, hq, c0, c1, c2, c3⟩ := hat j hlt; have HF := Hd (takeAll_snoc ps r1 s0 j hlt); obtain ⟨p, hpj⟩ : ∃ p, ps[j] = p := ⟨_, rfl⟩; rw [hpj] at c0 c1 c2 c3 HF; rw [HT.out.1] at HF; dsimp only at HF; have hen := take_enters p; clear hp hat hpj; have fM := HM.out.fa; go_wp2_with fail; all_goals clear fM
    refine nxt HM fun w8 M => ?_
    replace HM := M; clear M; clear c0 c1 c2 c3 hen; obtain ⟨C, hC, hS⟩ := (Mem.list' (L1 := [readerR b rj, cellsR ks 37 sj.cells]) (L := [partsR (.slice (some ⟨q, 0, none⟩) ps.length ps.length) ps, cellsR kq 311 [.pointer (some ⟨b, 0, none⟩)], cellsR ke 24 [.int .i64 0]]) (Mem.sub HM.out (by repeat first | exact Sub.nil | refine Sub.cons (by with_reducible repeat first | exact ph | apply pt) ?_))).step; refine (ptake_any w8 b ks p rj sj HLJ.out hC).mono ?_; rintro e w9 ⟨rfl, s', hs', hU⟩; replace HM := Hd (hS _ _ hU).unlist; simp only [List.cons_append, List.nil_append] at HM; clear hU hS hC C; by_cases he : (p.take rj sj).1.e = 0
    case neg =>
     have HQ := Hd (show P = (Sd.of 0, 340) by rw [HPQ.out, if_neg (fun h => absurd h.2.1 (takeAll_bad ps r1 s0 (j + 1) (by rw [HF.out]; exact he)))]); rw [if_neg he]; unfold saidE; clear he hs'; replace HM := Hd (Mem.list' (L1 := [cellsR ks 37 s'.cells, cellsR ke 24 [.int .i64 0]]) (L := []) (Mem.sub HM.out (by repeat first | exact Sub.nil | refine Sub.cons (by with_reducible repeat first | exact ph | apply pt) ?_))); obtain ⟨Bc, hBc, hSc⟩ := HM.out.step; refine leaves_cons (f := 231) (args := #[.pointer (some ⟨ks, 0, none⟩), .pointer (some ⟨ke, 0, none⟩)]) (by intro h; cases h) (enters_of Tryz.func231 (by kernel_rfl) rfl _ _) ?_; refine (parse1_said _ ks ke _ 0 [] hBc).mono ?_; rintro e u wq ⟨rfl, rfl, hUc⟩; replace HM := Hd (hSc _ _ hUc).unlist; simp only [List.cons_append, List.nil_append] at HM; show Leaves _ _ _ _ [] .returning _
     clear hUc hSc hBc Bc; obtain ⟨Ahb, hb⟩ := HM.out.get (r := cellsR ks 37 (Sd.of 0).cells) pk; obtain ⟨Ahe, he⟩ := HM.out.get (r := cellsR ke 24 [.int .i64 340]) pk; have hb1 : Box wq ks 37 [.int .i64 0, .int .i64 0, .int .i64 0, .int .i64 0, .bool false, .string ⟨#[]⟩, .string ⟨#[]⟩, .int .i64 0, .int .i64 0, .int .i64 0, .string ⟨#[]⟩] := hb.2; have hc := hb1.reads.1; have hd := he.2.reads.1; refine ⟨.tuple #[.agg #[.int .i64 0, .int .i64 0, .int .i64 0, .int .i64 0, .bool false, .string ⟨#[]⟩, .string ⟨#[]⟩, .int .i64 0, .int .i64 0, .int .i64 0, .string ⟨#[]⟩], .int .i64 340], ?_, ?_, HM.out.extTo⟩
     · simp [results, Tryz.results195, go_sem, hc, hd]
     · rw [HQ.out]; rfl
    obtain rfl := hs' he; rw [if_pos he]; have HE2 := Hd he; clear he hs'; go_wp2_with fail; go_roundw
    case rel => exact ⟨j + 1, by omega, by go_num, (p.take rj sj).1, (p.take rj sj).2, Hd ⟨HF.out, (p.take_ok rj sj HT.out.2.1).1, (p.take_ok rj sj HT.out.2.1).2.trans HT.out.2.2⟩, HE2, Hd (Nat.le_trans (p.take_len rj sj) HLJ.out), Hd (Mem.sub HM.out sbI)⟩
    case measure => simp [intOf]; omega
  · obtain rfl : j = ps.length := by omega
    rw [List.take_length] at HT; have fM := HM.out.fa; go_wp2_with fail; all_goals clear fM
    refine nxt HM fun w8 M => ?_
    replace HM := M; clear M; have HK := Hd (show I64 sj.kind by rw [HT.out.2.2]; exact HNI.out); obtain ⟨C, hC, hS⟩ := (HM.out.pick (r := readerR b rj) pk).step; refine (rend_any w8 b rj HLJ.out hC).mono ?_; rintro e w9 ⟨rfl, hU⟩; replace HM := Hd (hS _ _ hU); clear hU hS hC C; by_cases hb : rj.b = []
    case neg =>
     have HQ := Hd (show P = (Sd.of 0, 340) by rw [HPQ.out, HT.out.1, if_neg (fun h => hb h.2.2.1)]); have hf : rj.fin = (Rdr.bad, 120) := by unfold Rdr.fin; rw [if_neg (fun h => h HEJ.out), if_neg hb]
     rw [hf] at HM ⊢; dsimp only at HM ⊢; clear hf hb; have fM := HM.out.fa; go_wp2_with fail; all_goals clear fM
     refine (fmust_any _ _).mono ?_; rintro e w' ⟨rfl, hwq⟩; rw [hwq]; clear hwq w'; simp only [Bool.false_eq_true, if_false]; unfold saidE; replace HM := Hd (Mem.list' (L1 := [cellsR ks 37 sj.cells, cellsR ke 24 [.int .i64 0]]) (L := []) (Mem.sub HM.out (by repeat first | exact Sub.nil | refine Sub.cons (by with_reducible repeat first | exact ph | apply pt) ?_))); obtain ⟨Bc, hBc, hSc⟩ := HM.out.step; refine leaves_cons (f := 231) (args := #[.pointer (some ⟨ks, 0, none⟩), .pointer (some ⟨ke, 0, none⟩)]) (by intro h; cases h) (enters_of Tryz.func231 (by kernel_rfl) rfl _ _) ?_; refine (parse1_said _ ks ke _ 0 [] hBc).mono ?_; rintro e u wq ⟨rfl, rfl, hUc⟩; replace HM := Hd (hSc _ _ hUc).unlist; simp only [List.cons_append, List.nil_append] at HM; show Leaves _ _ _ _ [] .returning _
     clear hUc hSc hBc Bc; obtain ⟨Ahb, hb⟩ := HM.out.get (r := cellsR ks 37 (Sd.of 0).cells) pk; obtain ⟨Ahe, he⟩ := HM.out.get (r := cellsR ke 24 [.int .i64 340]) pk; have hb1 : Box wq ks 37 [.int .i64 0, .int .i64 0, .int .i64 0, .int .i64 0, .bool false, .string ⟨#[]⟩, .string ⟨#[]⟩, .int .i64 0, .int .i64 0, .int .i64 0, .string ⟨#[]⟩] := hb.2; have hc := hb1.reads.1; have hd := he.2.reads.1; refine ⟨.tuple #[.agg #[.int .i64 0, .int .i64 0, .int .i64 0, .int .i64 0, .bool false, .string ⟨#[]⟩, .string ⟨#[]⟩, .int .i64 0, .int .i64 0, .int .i64 0, .string ⟨#[]⟩], .int .i64 340], ?_, ?_, HM.out.extTo⟩
     · simp [results, Tryz.results195, go_sem, hc, hd]
     · rw [HQ.out]; rfl
    have HBE := Hd hb; have hf : rj.fin = (rj, 0) := by unfold Rdr.fin; rw [if_neg (fun h => h HEJ.out), if_pos hb]
    rw [hf] at HM ⊢; dsimp only at HM ⊢; clear hf hb; have fM := HM.out.fa; go_wp2_with fail; all_goals clear fM
    refine (check_any W w9 hT (HE.out.ext HM.out.extTo) sj HT.out.2.1 HK.out).mono ?_; rintro e w10 ⟨rfl, hE2⟩; replace HM := Hd (HM.out.ext hE2); clear hE2; unfold chkI; by_cases hsb : sdB sj = true
    case neg =>
     have HQ := Hd (show P = (Sd.of 0, 340) by rw [HPQ.out, HT.out.1, if_neg (fun h => hsb h.2.2.2)]); rw [if_neg hsb]; clear hsb; go_wp2_with fail; refine (fmust_any _ _).mono ?_; rintro e w' ⟨rfl, hwq⟩; rw [hwq]; clear hwq w'; simp only [Bool.false_eq_true, if_false]; unfold saidE; replace HM := Hd (Mem.list' (L1 := [cellsR ks 37 sj.cells, cellsR ke 24 [.int .i64 0]]) (L := []) (Mem.sub HM.out (by repeat first | exact Sub.nil | refine Sub.cons (by with_reducible repeat first | exact ph | apply pt) ?_))); obtain ⟨Bc, hBc, hSc⟩ := HM.out.step; refine leaves_cons (f := 231) (args := #[.pointer (some ⟨ks, 0, none⟩), .pointer (some ⟨ke, 0, none⟩)]) (by intro h; cases h) (enters_of Tryz.func231 (by kernel_rfl) rfl _ _) ?_; refine (parse1_said _ ks ke _ 0 [] hBc).mono ?_; rintro e u wq ⟨rfl, rfl, hUc⟩; replace HM := Hd (hSc _ _ hUc).unlist; simp only [List.cons_append, List.nil_append] at HM; show Leaves _ _ _ _ [] .returning _
     clear hUc hSc hBc Bc; obtain ⟨Ahb, hb⟩ := HM.out.get (r := cellsR ks 37 (Sd.of 0).cells) pk; obtain ⟨Ahe, he⟩ := HM.out.get (r := cellsR ke 24 [.int .i64 340]) pk; have hb1 : Box wq ks 37 [.int .i64 0, .int .i64 0, .int .i64 0, .int .i64 0, .bool false, .string ⟨#[]⟩, .string ⟨#[]⟩, .int .i64 0, .int .i64 0, .int .i64 0, .string ⟨#[]⟩] := hb.2; have hc := hb1.reads.1; have hd := he.2.reads.1; refine ⟨.tuple #[.agg #[.int .i64 0, .int .i64 0, .int .i64 0, .int .i64 0, .bool false, .string ⟨#[]⟩, .string ⟨#[]⟩, .int .i64 0, .int .i64 0, .int .i64 0, .string ⟨#[]⟩], .int .i64 340], ?_, ?_, HM.out.extTo⟩
     · simp [results, Tryz.results195, go_sem, hc, hd]
     · rw [HQ.out]; rfl
    have HQ := Hd (show P = (sj, 0) by rw [HPQ.out, HT.out.1, if_pos ⟨HE1.out, HEJ.out, HBE.out, hsb⟩]); rw [if_pos hsb]; clear hsb; go_wp2_with fail; refine (fmust_any _ _).mono ?_; rintro e w' ⟨rfl, hwq⟩; rw [hwq]; clear hwq w'; simp only [if_true]; have fM := HM.out.fa; go_wp2_with fail; all_goals clear fM
    refine nxt HM fun w11 M => ?_
    replace HM := M; clear M; obtain ⟨Ahe, he⟩ := HM.out.get (r := cellsR ke 24 [.int .i64 0]) pk; obtain ⟨Ahb, hb⟩ := HM.out.get (r := cellsR ks 37 [.int .i64 sj.kind, .int .i64 sj.member, .int .i64 sj.number, .int .i64 sj.index, .bool sj.is, .string (bs sj.text), .string (bs sj.token), .int .i64 sj.e.kind, .int .i64 sj.e.member, .int .i64 sj.e.number, .string (bs sj.e.text)]) pk; have hc := hb.2.reads.1; have hd := he.2.reads.1; refine leaves_cons (f := 231) (args := #[.pointer (some ⟨ks, 0, none⟩), .pointer (some ⟨ke, 0, none⟩)]) (by intro h; cases h) (enters_of Tryz.func231 (by kernel_rfl) rfl _ _) ?_; refine (parse1_none w11 ks ke).mono ?_; rintro r2 u wq ⟨rfl, rfl, rfl⟩; refine ⟨.tuple #[sj.v, .int .i64 0], ?_, ?_, HM.out.extTo⟩
    · unfold Sd.v Sd.cells
      simp [results, Tryz.results195, go_sem, hc, hd]
    · rw [HQ.out]

theorem body_len (s : Sd) (hb : sdB s = true) : (bodyL s).length ≤ 470 := by
 rw [← right_eq] at hb; simp only [Bool.and_eq_true, decide_eq_true_eq] at hb; obtain ⟨⟨⟨hk, -⟩, hbd⟩, hown⟩ := hb; obtain ⟨g1, g2, g3, g4, g5, g6, g7⟩ := (bnd_iff s).1 hbd; obtain ⟨k, m, n, i, is, t, tok, en⟩ := s; dsimp only at hk g7; have n1 := (numL_len m.toNat).2; have n2 := (numL_len n.toNat).2; have n3 := (numL_len i.toNat).2; have n4 := (numL_len tok.length).2; have n5 := (numL_len t.length).2; have n6 := (numL_len en.kind.toNat).2; have n7 := (numL_len en.member.toNat).2; have n8 := (numL_len en.number.toNat).2; have n9 := (numL_len en.text.length).2; have n10 := (numL_len k.toNat).2; have hT : (truL is).length = 1 := by cases is <;> rfl
 clear hbd g1 g2 g3 g4 g5 g6
 have h4 : k = 4 → t.length ≤ 200 := by
  intro h; subst h; have : 1 ≤ n ∧ chk t = 0 := by simpa [ownB] using hown
  exact chk_200 this.2
 have h9 : k = 9 → en.kind = 4 → en.text.length ≤ 200 := by
  intro h h2; subst h; have hen : enB en = true ∧ ¬ en.kind = 1 := by simpa [ownB] using hown
  exact ((enB_bounds hen.2 hen.1).2.2 h2).2.2
 clear hown; unfold bodyL; dsimp only; obtain rfl | rfl | rfl | rfl | rfl | rfl | rfl | rfl | rfl | rfl | rfl | rfl : k = 1 ∨ k = 2 ∨ k = 3 ∨ k = 4 ∨ k = 5 ∨ k = 6 ∨ k = 7 ∨ k = 8 ∨ k = 9 ∨ k = 10 ∨ k = 11 ∨ k = 12 := by omega
 all_goals
  simp only [List.length_append]; simp [partsOf, Part.lay, txtL]; try split
  all_goals (simp_all; try omega)
theorem frame_len {l : List UInt8} (h : l.length ≤ 470) : (frameL l).length ≤ 484 := by
 have := (numL_len (l.length + 4)).2; have := sealL_len l; unfold frameL; rw [List.length_append]; omega
theorem docRaw_any (w : World) (s : Sd) (hb : sdB s = true) (hl : s.text.length ≤ 300 ∧ s.e.text.length ≤ 300 ∧ s.token.length ≤ 300) :
 Calls Tryz.prog 87 #[s.v] w fun e w' => ∃ v', e = .returned v' ∧ Upd NoB w w' (bytR v' (frameL (bodyL s))) := by
 have HM := Hd (Mem.start0 w); have HBL := Hd (body_len s hb); have HB := Hd hb; have HL := Hd hl; have HV := Hd (show s.v = .agg s.cells.toArray from rfl); clear hb hl; unfold Sd.v Sd.cells; go_enter Tryz.func87, Tryz.ntmps87
 have fM := HM.out.fa; go_wp2_with fail; all_goals clear fM
 refine nxt HM fun w1 M => ?_
 replace HM := M; clear M; refine (docBody_any w1 s HB.out HL.out).mono ?_; rintro e w2 ⟨v2, rfl, hU⟩; obtain ⟨hb2, hE2⟩ := hU.byt; have HB2 := Hd hb2; replace HM := Hd (HM.out.ext hE2); clear hU hb2 hE2; have fM := HM.out.fa; go_wp2_with fail; all_goals clear fM
 refine (rframe_any w2 v2 _ HB2.out (by have := HBL.out; omega)).mono ?_; rintro e w3 ⟨v3, rfl, hU⟩; obtain ⟨F2, u1, u2, u3⟩ := hU; replace HM := Hd (HM.out.new (r := bytR v3 (frameL (bodyL s))) (G := F2) u2 u1 (fun k hk => (u3 k hk).elim (fun h => (noB _ h).elim) id)); clear u1 u2 u3; clear F2; have fM := HM.out.fa; go_wp2_with fail; all_goals clear fM
 go_ret; exact ⟨_, rfl, (HM.out.pick (r := bytR v3 (frameL (bodyL s))) pk).upd⟩
section
attribute [local go_sem] Oper.semAt_some
def TabX (A : Nat → Prop) (w : World) : Prop := Tabs w ∧ ¬ A (Tryz.laysValid_ren.g 3) ∧ ¬ A (Tryz.laysValid_ren.g 4)
theorem Tabs.lt {w : World} (h : Tabs w) : Tryz.laysValid_ren.g 3 < w.heap.size ∧ Tryz.laysValid_ren.g 4 < w.heap.size :=
 ⟨World.block_lt_of_cell? w ⟨_, 0, none⟩ (h.1 0 (by decide)), World.block_lt_of_cell? w ⟨_, 0, none⟩ (h.2 0 (by decide)).1⟩
theorem Tabs.keeps {A : Nat → Prop} {w w' : World} (h : Tabs w) (hk : Keeps A w w') (h3 : ¬ A (Tryz.laysValid_ren.g 3)) (h4 : ¬ A (Tryz.laysValid_ren.g 4)) : Tabs w' :=
 ⟨fun c hc => hk.cell h3 (h.1 c hc), fun i hi => ⟨hk.cell h4 (h.2 i hi).1, hk.cell h4 (h.2 i hi).2⟩⟩
theorem tabX_ok : XOK TabX where
 step := fun ⟨h1, h2, h3⟩ hk hA => ⟨h1.keeps hk h2 h3, fun h => (hA _ h).elim h2 (by have := h1.lt; omega), fun h => (hA _ h).elim h3 (by have := h1.lt; omega)⟩
theorem openL_le {l m : List UInt8} (h : openL l = some m) : m.length ≤ l.length := by
 unfold openL at h; split at h
 · cases h
 · split at h
   · cases h
     rw [List.length_take]; omega
   · cases h
theorem splitL_b (l : List UInt8) : (splitL l).1.length ≤ l.length := by
 unfold splitL; split
 · exact Nat.zero_le _
 · split
   · exact Nat.zero_le _
   · split
     · exact Nat.zero_le _
     · split
       · exact Nat.zero_le _
       · rename_i m h
         have := openL_le h; dsimp only; rw [List.length_take, List.length_drop] at this; omega
end
def readL (b : List UInt8) : Sd × Nat × Int :=
 if (splitL b).2.2 ≠ 0 ∨ (splitL b).2.1 = 0 then (Sd.of 0, 0, (splitL b).2.2) else
 if (parseL (splitL b).1).2 ≠ 0 then (Sd.of 0, 0, (parseL (splitL b).1).2) else ((parseL (splitL b).1).1, (splitL b).2.1, 0)
theorem parse_err (b : List UInt8) (h : (parseL b).2 ≠ 0) : (parseL b).1 = Sd.of 0 := by
 unfold parseL at h ⊢; dsimp only at h ⊢; split at h
 · exact absurd rfl h
 · rename_i hc
   rw [if_neg hc]
theorem results_ctt {P : Program} {w : World} {fn : Func} {r s u : Nat} {ty : TypeId} {v : Value} {ad : Addr} (hr : fn.results = #[.cell r ty, .tmp s, .tmp u]) (tmps : Array Value) (h0 : tmps.getD r undef = .pointer (some ad)) (hl : (loadVar ty ad).run P w = .ok v w) :
 (results fn tmps).run P w = .ok (.tuple #[v, tmps.getD s undef, tmps.getD u undef]) w := by
 unfold results; rw [hr]; simp only [List.mapM_toArray, List.mapM_cons, List.mapM_nil]; simp [h0, asAddr, hl, Sem.run_bind, Result.andThen]
theorem fread_any {A : Nat → Prop} (W w : World) (hT : Tabs W) (hE : Ext W w) (v : Value) (l : List UInt8) (h : Bytes w A v l) (hA : ∀ k, A k → k < w.heap.size) (hl : l.length ≤ 1099511627776) :
 Calls Tryz.prog 139 #[v] w fun e w' => e = .returned (.tuple #[(readL l).1.v, .int .i64 ((readL l).2.1 : Int), .int .i64 (readL l).2.2]) ∧ Ext w w' := by
 obtain ⟨a, c, rfl⟩ := h.len; have HM := Hd (Mem.start0 w); have HE := Hd hE; have HB := Hd h; have HA := Hd hA; have HLL := Hd hl; clear hE h hA hl; obtain ⟨Z, hZ⟩ : ∃ Z, readL l = Z := ⟨_, rfl⟩; rw [hZ]; have hRL := hZ; unfold readL at hRL; have HZ := Hd hRL; clear hZ hRL; go_enter Tryz.func139, Tryz.ntmps139
 have fM := HM.out.fa; go_wp2_with fail; all_goals clear fM
 refine nxt HM fun w1 M => ?_
 replace HM := M; clear M; obtain ⟨k0, hk0⟩ : ∃ k, w.heap.size = k := ⟨_, rfl⟩; rw [hk0] at HM ⊢; clear hk0; refine (split_any w1 (.slice a l.length c) l (HB.out.ext HM.out.extTo) (fun k hk => Nat.lt_of_lt_of_le (HA.out k hk) HM.out.extTo.size) HLL.out).mono ?_; rintro e w2 ⟨⟨x, rfl, hx⟩, hE2⟩; have hsb := splitL_b l; obtain ⟨⟨sb, n, no⟩, hs⟩ : ∃ s, splitL l = s := ⟨_, rfl⟩; rw [hs] at hx HZ hsb ⊢; dsimp only at hx HZ hsb ⊢; have HX := Hd hx; have HX2 := Hd hsb; replace HM := Hd (HM.out.ext hE2); have hlt : ∀ k, New w1 w2 k → k < w2.heap.size := fun k hk => hk.2
 have HLT := Hd hlt; clear hx hsb hs hE2 hlt; by_cases h1 : no = 0
 case neg =>
  have HQ := Hd (show Z = (Sd.of 0, 0, no) by rw [← HZ.out, if_pos (.inl h1)]); have d1 : (no != 0) = true := by simpa using h1
  clear h1; have fM := HM.out.fa; go_wp2_with fail; all_goals clear fM
  refine nxt HM fun w9 M => ?_
  replace HM := M; clear M; obtain ⟨Ahb, hb⟩ := HM.out.get (r := cellsR k0 37 [.int .i64 0, .int .i64 0, .int .i64 0, .int .i64 0, .bool false, .string ⟨#[]⟩, .string ⟨#[]⟩, .int .i64 0, .int .i64 0, .int .i64 0, .string ⟨#[]⟩]) (by repeat first | exact ph | apply pt); refine bodyPost_ret (results_ctt Tryz.results139 _ rfl (run_loadVar_row w9 _ _ 37 _ (0, 0) _ hb.2 Tryz.underlying37 rfl (by kernel_rfl))) rfl ?_; exact ⟨by rw [HQ.out]; rfl, HM.out.extTo⟩
 subst h1; by_cases h2 : n = 0
 · have HQ := Hd (show Z = (Sd.of 0, 0, 0) by rw [← HZ.out, if_pos (.inr h2)])
   subst h2; have fM := HM.out.fa; go_wp2_with fail; all_goals clear fM
   refine nxt HM fun w9 M => ?_
   replace HM := M; clear M; obtain ⟨Ahb, hb⟩ := HM.out.get (r := cellsR k0 37 [.int .i64 0, .int .i64 0, .int .i64 0, .int .i64 0, .bool false, .string ⟨#[]⟩, .string ⟨#[]⟩, .int .i64 0, .int .i64 0, .int .i64 0, .string ⟨#[]⟩]) (by repeat first | exact ph | apply pt); refine bodyPost_ret (results_ctt Tryz.results139 _ rfl (run_loadVar_row w9 _ _ 37 _ (0, 0) _ hb.2 Tryz.underlying37 rfl (by kernel_rfl))) rfl ?_; exact ⟨by rw [HQ.out]; rfl, HM.out.extTo⟩
 have hz2 := HZ.out; rw [if_neg (fun h => h.elim (fun h => h rfl) h2)] at hz2; replace HZ := Hd hz2; have d2 : ((n : Int) == 0) = false := by simp; omega
 clear hz2 h2; have fM := HM.out.fa; go_wp2_with fail; all_goals clear fM
 clear d2; refine (parse_any W _ hT (HE.out.ext HM.out.extTo) x sb HX.out (by have := HX2.out; have := HLL.out; omega)).mono ?_; rintro e w3 ⟨rfl, hE3⟩; have hpe := parse_err sb; obtain ⟨⟨s, no⟩, hp⟩ : ∃ p, parseL sb = p := ⟨_, rfl⟩; rw [hp] at HZ hpe ⊢; dsimp only at HZ hpe ⊢; replace HM := Hd (HM.out.ext hE3); clear hE3 hp; by_cases h3 : no = 0
 case neg =>
  have HQ := Hd (show Z = (Sd.of 0, 0, no) by rw [← HZ.out, if_pos h3]); have hs0 := hpe h3; subst hs0; have d3 : (no != 0) = true := by simpa using h3
  clear h3 hpe; rw [show (Sd.of 0).v = .agg #[.int .i64 0, .int .i64 0, .int .i64 0, .int .i64 0, .bool false, .string ⟨#[]⟩, .string ⟨#[]⟩, .int .i64 0, .int .i64 0, .int .i64 0, .string ⟨#[]⟩] from rfl]; have fM := HM.out.fa; go_wp2_with fail; all_goals clear fM
  refine nxt HM fun w9 M => ?_
  replace HM := M; clear M; obtain ⟨Ahb, hb⟩ := HM.out.get (r := cellsR k0 37 [.int .i64 0, .int .i64 0, .int .i64 0, .int .i64 0, .bool false, .string ⟨#[]⟩, .string ⟨#[]⟩, .int .i64 0, .int .i64 0, .int .i64 0, .string ⟨#[]⟩]) (by repeat first | exact ph | apply pt); refine bodyPost_ret (results_ctt Tryz.results139 _ rfl (run_loadVar_row w9 _ _ 37 _ (0, 0) _ hb.2 Tryz.underlying37 rfl (by kernel_rfl))) rfl ?_; exact ⟨by rw [HQ.out]; rfl, HM.out.extTo⟩
 subst h3; have HQ := Hd (show Z = (s, n, 0) by rw [← HZ.out, if_neg (fun h => h rfl)]); clear hpe; unfold Sd.v Sd.cells; have fM := HM.out.fa; go_wp2_with fail; all_goals clear fM
 refine nxt HM fun w9 M => ?_
 replace HM := M; clear M; obtain ⟨Ahb, hb⟩ := HM.out.get (r := cellsR k0 37 [.int .i64 s.kind, .int .i64 s.member, .int .i64 s.number, .int .i64 s.index, .bool s.is, .string (bs s.text), .string (bs s.token), .int .i64 s.e.kind, .int .i64 s.e.member, .int .i64 s.e.number, .string (bs s.e.text)]) (by repeat first | exact ph | apply pt); refine bodyPost_ret (results_ctt Tryz.results139 _ rfl (run_loadVar_row w9 _ _ 37 _ (0, 0) _ hb.2 Tryz.underlying37 rfl (by kernel_rfl))) rfl ?_; exact ⟨by rw [HQ.out]; rfl, HM.out.extTo⟩
end Go.Proofs.YtoadjbgpfihoiaaGreatDoor
