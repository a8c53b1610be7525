/- Texts SB3, SN, SSame, DS, DT, DU, DV, DW, SAct, SAct2, SAct3, SAct4, SLong, SFew, STaken, SOpen, SNone, SOpenB, one behind the other. Conditions: as each says. -/
import Derived.Test.YtoadjbgpfihoiaaGreatDoorTeZH
import Derived.Test.YtoadjbgpfihoiaaGreatDoorTeZJ
set_option linter.unusedVariables false
set_option linter.unusedSimpArgs false
set_option maxHeartbeats 8000000
set_option maxRecDepth 100000
namespace Go.Proofs.YtoadjbgpfihoiaaGreatDoor
open Go.RowKit
def besD : List (Int × Value) := [(10, .int .i64 0), (11, .int .i64 16)]
def besK (k : Int) : Bool := decide (k = 10) || decide (k = 11)
theorem look_bes (k : Int) : lookI besD k (.int .i64 0) = (.int .i64 (if k = 11 then 16 else 0), besK k) := by
 unfold lookI besD besK; by_cases h1 : k = 10
 · subst h1; rfl
 · by_cases h2 : k = 11
   · subst h2; rfl
   · have a1 : ¬ (10 : Int) = k := fun h => h1 h.symm
     have a2 : ¬ (11 : Int) = k := fun h => h2 h.symm
     simp [a1, a2, h1, h2]
theorem zeroI (w : World) : (zeroValue 3).run Tryz.prog w = .ok (.int .i64 0) w := by kernel_rfl
theorem sbes1 (w : World) (k3 k7 : Nat) (x : Sd) (hx : OkS x) (hk : I64 x.kind) (b : Bool) (B3 : Box w k3 37 x.cells) (B7 : Box w k7 4 [.bool b]) (hT : Tabs w) :
 Calls Tryz.prog 105 #[.pointer (some ⟨k7, 0, none⟩), .pointer (some ⟨k3, 0, none⟩)] w fun e w' => e = .returned (.bool (b && sdB x)) ∧ Ext w w' := by
 replace B3 := Hd B3; replace B7 := Hd B7; have HV := Hd (show x.v = .agg x.cells.toArray from rfl); obtain ⟨cB3, zB3⟩ := B3.out.reads; have lB3 := B3.out.lt; obtain ⟨cB7, zB7⟩ := B7.out.reads; have lB7 := B7.out.lt; unfold Sd.cells at cB3; cases b with
 | false =>
   go_enter Tryz.func105, Tryz.ntmps105
   go_wp2_with fail; go_ret; exact ⟨rfl, Keeps.refl _ _⟩
 | true =>
   go_enter Tryz.func105, Tryz.ntmps105
   go_wp2_with fail; refine (check_any w w hT (Keeps.refl _ _) x hx hk).mono ?_; rintro e w7 ⟨rfl, hE⟩; have HE := Hd hE; have HC := Hd (show chkI x = if sdB x = true then 0 else 2 from rfl); rw [HC.out]; clear hE; cases hb : sdB x
   · rw [if_neg Bool.false_ne_true]
     go_wp2_with fail; go_ret; exact ⟨by rw [hb]; rfl, HE.out⟩
   · rw [if_pos rfl]
     go_wp2_with fail; go_ret; exact ⟨by rw [hb]; rfl, HE.out⟩
theorem sbes2 {F : Nat → Prop} {w0 : World} (w : World) (hX : TabX F w0) (sb k2 k3 k4 k6 rb : Nat) (bv : Value) (s : Ss) (x : Sd) (kz : Int) (hkz : kz = if x.kind = 11 then 16 else 0) (hx : OkS x) (hb : sdB x = true) (hm : 0 ≤ x.member ∧ x.member ≤ 15) (hl : s.ring.lost ≤ 1000000)
 (h : Mem F w0 w [cellsR k6 3 [.int .i64 kz], cellsR k4 3 [.int .i64 0], cellsR k3 37 x.cells, cellsR k2 64 [.pointer (some ⟨sb, 0, none⟩)], cellsR sb 99 (sesC rb bv s), ringR rb s.ring, byeR bv s.bye]) :
 Calls Tryz.prog 106 #[.pointer (some ⟨k3, 0, none⟩), .pointer (some ⟨k2, 0, none⟩), .pointer (some ⟨k6, 0, none⟩), .pointer (some ⟨k4, 0, none⟩)] w fun e w' =>
  e = .returned (.tuple #[]) ∧ Mem F w0 w' [cellsR k4 3 [.int .i64 ((s.ring.put ⟨true, Ss.keyS x, rawS x⟩).2.1 : Nat)], sesR sb { s with ring := (s.ring.put ⟨true, Ss.keyS x, rawS x⟩).1 }] := by
 have HM := Hd h; have HX := Hd hX; have HB := Hd hb; have hrl := raw_len x hb; have HV := Hd (show x.v = .agg x.cells.toArray from rfl); have hky : Ss.keyS x = kz + x.member := by rw [hkz]; unfold Ss.keyS; omega
 have hk0 : 0 ≤ kz ∧ kz ≤ 16 := by rw [hkz]; split <;> omega
 rw [hky]; obtain ⟨b, hbe⟩ : ∃ b, rawS x = b := ⟨_, rfl⟩; have HPM := Hd (put_most s.ring ⟨true, kz + x.member, b⟩); obtain ⟨⟨R', n1, e1⟩, hp⟩ : ∃ p, s.ring.put ⟨true, kz + x.member, b⟩ = p := ⟨_, rfl⟩; rw [hbe, hp]; rw [hbe] at hrl; rw [hp] at HPM; dsimp only at HPM ⊢; have HRL := Hd hrl; have HBE := Hd hbe; have HP := Hd hp; have hw : IntKind.i64.wrap (kz + x.member) = kz + x.member := IntWalk.i64_in _ (by omega); have HW := Hd hw; clear h hX hb hbe hp hrl hkz hky hw; go_enter Tryz.func106, Tryz.ntmps106
 unfold Sd.cells at HM; have fM := HM.out.fa; go_wp2_with fail; all_goals clear fM
 rw [← HV.out]; refine (raw_ok w w (tabs_mem HX.out HM.out) (Keeps.refl _ _) x hx HB.out).mono ?_; rintro e w3 ⟨v, rfl, hU⟩; rw [show frameL (bodyL x) = b from HBE.out] at hU; replace HM := Hd (HM.out.newU hU); obtain ⟨a3, c3, rfl⟩ := HM.out.fact fun A h => bytR.len h
 clear hU; have fM := HM.out.fa; go_wp2_with fail; all_goals clear fM
 obtain ⟨C, B, hC, hBv, hd, -, hS⟩ := HM.out.beside (r := ringR rb s.ring) (x := bytR (.slice a3 b.length c3) b) pk pk; have fM := HM.out.fa; have hw := HW.out; have hE0 : Keeps (fun k => C k ∨ k = k4) w3 w3.drew := (Keeps.refl _ _).drew; refine rgK (fun k => C k ∨ k = k4) [(3, 0), (0, 1), (0, 2), (3, 3), (3, 4), (0, 5), (3, 6), (0, 7), (0, 8), (0, 9), (2, 10), (0, 11), (0, 12), (0, 13)] [] [10, 14] [14] ?_; simp only [planL, nL]; iterate 10 (first | (refine pM _ rfl rfl ?_; simp only [nP, nE]) | (refine pR (by rfl) (fun W => by go_simp <;> with_reducible rfl) ?_; simp only [nP]) | (refine pX (by rfl) (by go_simp <;> with_reducible rfl) ?_; simp only [nP]))
 refine plan_does rfl (fun K hK => ?_); go_wp2_with fail; refine (put_r (B := B) _ rb s.ring ⟨true, kz + x.member, b⟩ _ (Res.keeps _ hC (Ext.drew0 w3) (fun _ _ => noB _)) ⟨_, rfl, (bytR.bytes hBv).ext (Ext.drew0 w3)⟩ (fun h => hd _ h (ringR.own hC)) (by have := HRL.out; dsimp only; omega) hl).mono ?_; rintro e w4 ⟨rfl, hU⟩; have hE4 := hE0.trans (hU.keepsTo.mono (T := fun k => C k ∨ k = k4) fun k _ h => .inl h); replace HM := Hd (hS _ _ (hU.pre (Ext.drew0 w3))); rw [HP.out] at HM ⊢; dsimp only at HM ⊢; clear hU; clear fM; have fM := HM.out.fa; refine hK _ _ ⟨ClsK.of (by assumption), ?_⟩; clear hK K; try simp only [nP]
 refine pM _ rfl rfl ?_; simp only [nP, nE]; iterate 2 (refine pR rfl (fun W => by go_simp <;> with_reducible rfl) ?_; simp only [nP])
 refine plan_nil ?_; simp only [tailL, List.filterMap_cons, List.filterMap_nil, nL]; change wpList _ _ _ (_ :: []) _ _; go_wp2_with fail; clear fM; refine nxt HM fun w5 M => ?_
 replace HM := M; clear M; go_end0
 have hce : sesC rb bv s = sesC rb bv { s with ring := R' } := by
  show [_, _, _, _, _, _, _, _, _, _, Value.int .i64 (s.ring.most : Int), _, _] = [_, _, _, _, _, _, _, _, _, _, Value.int .i64 (R'.most : Int), _, _]
  rw [HPM.out]
 rw [hce] at HM; have h1 := Mem.sub (L' := sesM sb rb bv { s with ring := R' } [cellsR k4 3 [.int .i64 (n1 : Int)]]) HM.out sbI; exact ⟨rfl, Mem.sub (Mem.sesClose (s := { s with ring := R' }) h1) (by repeat first | exact Sub.nil | refine Sub.cons (by with_reducible repeat first | exact ph | apply pt) ?_)⟩
theorem lv_int (w : World) (b : Nat) (n : Int) (h : w.cell? ⟨b, 0, none⟩ = some (.int .i64 n)) : (loadVar 3 ⟨b, 0, none⟩).run Tryz.prog w = .ok (.int .i64 n) w := by simp [go_sem, h]
theorem at_mk {P : Program} {ops : Array Oper} {Q : Exit → Act → World → Prop} {o : Oper} {rest : List Oper} {a : Act} {w : World} (ty : TypeId) (ho : o.op = .makeMap ty none) (h : wpList P ops Q (o :: rest) a w) : wpList P ops Q (o :: rest) a w := h
theorem beside_does (s : Ss) (x : Sd) :
 (doesB false (besK x.kind && sdB x) s.closed [] = true → s.beside x = ({ s with ring := (s.ring.put ⟨true, Ss.keyS x, rawS x⟩).1 }, (((s.ring.put ⟨true, Ss.keyS x, rawS x⟩).2.1 : Nat) : Int), 0) ∧ doesI false (besK x.kind && sdB x) s.closed [] = 0) ∧
 (doesB false (besK x.kind && sdB x) s.closed [] = false → s.beside x = (s, 0, doesI false (besK x.kind && sdB x) s.closed [])) := by
 unfold Ss.beside doesI doesB; have : Ss.besOk x = (besK x.kind && sdB x) := rfl; rw [this]; cases h1 : (besK x.kind && sdB x)
 · simp
 · cases h2 : s.closed
   · simp [firstF, noneF]
   · simp
theorem sd_member {x : Sd} (h : (besK x.kind && sdB x) = true) : 0 ≤ x.member ∧ x.member ≤ 15 := by
 rw [Bool.and_eq_true] at h; obtain ⟨h1, h2⟩ := h; unfold besK at h1; simp only [Bool.or_eq_true, decide_eq_true_eq] at h1; unfold sdB at h2; have : partsOf x.kind = some [.member, .is] := by rcases h1 with h | h <;> rw [h] <;> rfl
 rw [this] at h2; simp only [Bool.and_eq_true, List.all_cons, Part.may, decide_eq_true_eq] at h2; exact h2.2.1
theorem beside_any {A : Nat → Prop} (w : World) (sb : Nat) (s : Ss) (k : Nat) (hok : OkSs s k) (hk : k ≤ 1000000) (x : Sd) (hx : OkS x) (hxk : I64 x.kind) (h : (sesR sb s).p A w) (hX : TabX A w) :
 Calls Tryz.prog 42 #[.pointer (some ⟨sb, 0, none⟩), x.v] w fun r w' => r = .returned (.tuple #[.int .i64 (s.beside x).2.1, .int .i64 (s.beside x).2.2]) ∧ Upd A w w' (sesR sb (s.beside x).1) := by
 obtain ⟨rb, bv, hm⟩ := (Mem.start h).sesOpen; have HM := Hd hm; have HX := Hd hX; have HOK := Hd hok; have HOS := Hd hx; have HKI := Hd hxk; have HV := Hd (show x.v = .agg x.cells.toArray from rfl); rw [HV.out]; clear hm h hX hok hx hxk; unfold Sd.cells; go_enter Tryz.func42, Tryz.ntmps42
 have fM := HM.out.fa; go_wp2_with ((with_reducible refine at_mk 163 rfl ?_); refine standing ?_); all_goals clear fM
 obtain ⟨k2, hk2⟩ : ∃ k, w.heap.size = k := ⟨_, rfl⟩; obtain ⟨k3, hk3⟩ : ∃ k, k2 + 1 = k := ⟨_, rfl⟩; obtain ⟨k4, hk4⟩ : ∃ k, k3 + 1 = k := ⟨_, rfl⟩; refine nxt HM fun w1 M => ?_
 replace HM := M; clear M; rw [hk2, hk3, hk4] at HM; rw [hk2, hk3, hk4]; clear hk2 hk3 hk4; have hmm := run_makeMap (P := Tryz.prog) 163 w1; have put := fun (w : World) (D : List (Int × Value)) (m : Nat) (h : MapI w m D) (n : Int) (hn : I64 n) (hne : ∀ p ∈ D, p.1 ≠ n) (v : Value) => h.put Tryz.underlying163 Tryz.underlying32 hn hne v
 obtain ⟨w2, r1, m1, k1⟩ := put _ _ _ (mapi_new w1) 10 (i64_lit 10 rfl) (by simp) (.int .i64 0); obtain ⟨w3, r2, m2, k2'⟩ := put _ _ _ m1 11 (i64_lit 11 rfl) (by simp) (.int .i64 16); have hE3 : Ext w1 w3 := ((Keeps.refl NoB w1).alloc _).then (k1.trans k2') fun i hi h => absurd (show i = w1.heap.size from h) (by omega)
 have hlk : (Instr.lookup 163 (.map (some w1.heap.size)) (.int .i64 x.kind) true).run Tryz.prog w3 = .ok (.tuple #[(lookI besD x.kind (.int .i64 0)).1, .bool (lookI besD x.kind (.int .i64 0)).2]) w3 :=
  MapI.look (D := besD) m2 Tryz.underlying163 Tryz.underlying32 zeroI HKI.out (by unfold besD; simp) true
 rw [look_bes] at hlk; dsimp only at hlk; obtain ⟨kz, hkz⟩ : ∃ kz : Int, kz = if x.kind = 11 then 16 else 0 := ⟨_, rfl⟩
 obtain ⟨bk, hbk⟩ : ∃ bk, besK x.kind = bk := ⟨_, rfl⟩; rw [← hkz, hbk] at hlk; have HKZ := Hd hkz; have HBK := Hd hbk; replace HM := Hd (HM.out.ext hE3); clear m1 m2 k1 k2' put hE3 hkz hbk; refine ⟨?_⟩; have fM := HM.out.fa; go_wp2_with fail; all_goals clear fM
 obtain ⟨k6, hk6⟩ : ∃ k, w3.heap.size = k := ⟨_, rfl⟩; obtain ⟨k7, hk7⟩ : ∃ k, k6 + 1 = k := ⟨_, rfl⟩; refine nxt HM fun w4 M => ?_
 replace HM := M; clear M; rw [hk6, hk7] at HM; rw [hk6, hk7]; clear hk6 hk7 r1 r2 hlk hmm; have hm2 : Mem A w w4 [cellsR k7 4 [.bool bk], cellsR k6 3 [.int .i64 kz], cellsR k4 3 [.int .i64 0], cellsR k3 37 x.cells, cellsR k2 64 [.pointer (some ⟨sb, 0, none⟩)], cellsR sb 99 (sesC rb bv s), ringR rb s.ring, byeR bv s.bye] := HM.out; replace HM := Hd hm2; clear hm2; obtain ⟨_, hb3⟩ := HM.out.get (r := cellsR k3 37 x.cells) pk; obtain ⟨_, hb7⟩ := HM.out.get (r := cellsR k7 4 [.bool bk]) pk; obtain ⟨_, hbs⟩ := HM.out.get (r := cellsR sb 99 (sesC rb bv s)) pk; have HT1 := Hd (tabs_mem HX.out HM.out); have m1 : TellsF w4 ⟨105, #[], #[.pointer (some ⟨k7, 0, none⟩), .pointer (some ⟨k3, 0, none⟩)], 0⟩ (bk && sdB x) := ⟨enters_of Tryz.func105 (by kernel_rfl) rfl, fun w2 h2 => sbes1 w2 k3 k7 x HOS.out HKI.out bk (hb3.2.ext h2) (hb7.2.ext h2) (HT1.out.ext h2)⟩
 have m2 := fun (hb : doesB false (bk && sdB x) s.closed [] = true) w2 (h2 : Ext w4 w2) =>
  sbes2 w2 HX.out sb k2 k3 k4 k6 rb bv s x kz HKZ.out HOS.out (by have := doesB_may hb; rw [Bool.and_eq_true] at this; exact this.2) (sd_member (by rw [HBK.out]; exact doesB_may hb)) (Nat.le_trans HOK.out.lost hk) (Mem.sub (HM.out.ext h2) sbI)
 have hd := does_any (Q := fun w' => Mem A w w' [cellsR k4 3 [.int .i64 ((s.ring.put ⟨true, Ss.keyS x, rawS x⟩).2.1 : Nat)], sesR sb { s with ring := (s.ring.put ⟨true, Ss.keyS x, rawS x⟩).1 }]) w4 (some ⟨sb, 0, none⟩) false (bk && sdB x) s.closed 105 106 #[] #[.pointer (some ⟨k7, 0, none⟩), .pointer (some ⟨k3, 0, none⟩)] #[] #[.pointer (some ⟨k3, 0, none⟩), .pointer (some ⟨k2, 0, none⟩), .pointer (some ⟨k6, 0, none⟩), .pointer (some ⟨k4, 0, none⟩)] (.slice none 0 0) [] (by simp) (fun w2 h2 => snone_ses (hbs.2.ext h2)) (fun _ => m1) (fun _ => ⟨sb, rfl, hbs.2.reads.1 8⟩) (.inl ⟨rfl, rfl⟩) (enters_of Tryz.func106 (by kernel_rfl) rfl) (fun hb => m2 hb); clear m1 m2; refine hd.mono ?_; clear hd; rintro r w5 ⟨rfl, h1, h2⟩; obtain ⟨p1, p2⟩ := beside_does s x; rw [HBK.out] at p1 p2; cases hb : doesB false (bk && sdB x) s.closed [] with
 | true =>
   obtain ⟨q1, q2⟩ := p1 hb; rw [q2]; have HQ := Hd q1; replace HM := Hd (h1 hb); clear h1 h2 p1 p2 q1 q2 hb hb3 hb7 hbs; have fM := HM.out.fa; go_wp2_with fail; all_goals clear fM
   refine nxt HM fun w6 M => ?_
   replace HM := M; clear M; obtain ⟨_, hb4⟩ := HM.out.get (r := cellsR k4 3 [.int .i64 ((s.ring.put ⟨true, Ss.keyS x, rawS x⟩).2.1 : Nat)]) pk; refine bodyPost_ret (results_ct rfl _ rfl (lv_int w6 k4 _ (hb4.2.reads.1 0))) rfl ?_; rw [HQ.out]; exact ⟨rfl, (HM.out.pick (r := sesR sb { s with ring := (s.ring.put ⟨true, Ss.keyS x, rawS x⟩).1 }) pk).upd⟩
 | false =>
   have HQ := Hd (p2 hb); replace HM := Hd (HM.out.ext (h2 hb)); obtain ⟨n, hn⟩ : ∃ n, doesI false (bk && sdB x) s.closed [] = n := ⟨_, rfl⟩; rw [hn] at HQ ⊢; clear h1 h2 p1 p2 hb hb3 hb7 hbs hn; have fM := HM.out.fa; go_wp2_with fail; all_goals clear fM
   refine nxt HM fun w6 M => ?_
   replace HM := M; clear M; obtain ⟨_, hb4⟩ := HM.out.get (r := cellsR k4 3 [.int .i64 0]) pk; refine bodyPost_ret (results_ct rfl _ rfl (lv_int w6 k4 _ (hb4.2.reads.1 0))) rfl ?_; rw [HQ.out]; exact ⟨rfl, Mem.sesUpd (Mem.sub HM.out (by repeat first | exact Sub.nil | refine Sub.cons (by with_reducible repeat first | exact ph | apply pt) ?_))⟩
theorem bools6 (a b c d e f : Bool) : [a, b, c, d, e, f].contains false = !(a && b && c && d && e && f) := by cases a <;> cases b <;> cases c <;> cases d <;> cases e <;> cases f <;> rfl
theorem snew_no (w : World) (member number fr most wait now : Int) (h : newOk member number fr most wait now = false) :
 Calls Tryz.prog 23 #[.int .i64 member, .int .i64 number, .int .i64 fr, .int .i64 most, .int .i64 wait, .int .i64 now] w fun e w' => e = .returned (.tuple #[.pointer none, .int .i64 2]) ∧ Ext w w' := by
 unfold newOk farN at h; obtain ⟨b2, hb2⟩ : ∃ b, decide (0 ≤ member ∧ member ≤ 15) = b := ⟨_, rfl⟩; obtain ⟨b3, hb3⟩ : ∃ b, decide (0 ≤ number ∧ number ≤ 2147483647) = b := ⟨_, rfl⟩; obtain ⟨b4, hb4⟩ : ∃ b, decide (0 ≤ fr ∧ fr ≤ 2147483647) = b := ⟨_, rfl⟩; obtain ⟨b5, hb5⟩ : ∃ b, decide (1 ≤ wait ∧ wait ≤ 1000000) = b := ⟨_, rfl⟩; obtain ⟨b6, hb6⟩ : ∃ b, decide (0 ≤ now ∧ now ≤ 4611686018427387904) = b := ⟨_, rfl⟩; rw [hb2, hb3, hb4, hb5, hb6] at h; have HB2 := Hd hb2; have HB3 := Hd hb3; have HB4 := Hd hb4; have HB5 := Hd hb5; have HB6 := Hd hb6; clear hb2 hb3 hb4 hb5 hb6; by_cases hm : 1 ≤ most ∧ most ≤ 64
 · rw [decide_eq_true hm] at h
   have hn := bools6 true b2 b3 b4 b5 b6; rw [h, Bool.not_false] at hn; have HN := Hd hn; obtain ⟨m, rfl⟩ : ∃ m : Nat, most = m := ⟨most.toNat, by omega⟩; have HM := Hd (Mem.start0 w); clear h hn; go_enter Tryz.func23, Tryz.ntmps23
   go_wp2_with fail; refine (new_r w m (by omega) (by omega)).mono ?_; rintro e w2 ⟨rb, rfl, hU⟩; replace HM := Hd (HM.out.ext hU.keepsTo); clear hU; go_wp2_with fail; refine cret (sin_int _ _ _ _) ?_; rw [HB2.out]; go_wp2_with fail; refine cret (sin_i64 _ _ _ _) ?_; rw [HB3.out]; go_wp2_with fail; refine cret (sin_i64 _ _ _ _) ?_; rw [HB4.out]; go_wp2_with fail; refine cret (sin_i64 _ _ _ _) ?_; rw [HB5.out]; go_wp2_with fail; refine cret (sin_i64 _ _ _ _) ?_; rw [HB6.out]; go_wp2_with fail; obtain ⟨kq, hkq⟩ : ∃ k, w2.heap.size = k := ⟨_, rfl⟩; refine nxt HM fun w3 M => ?_
   replace HM := M; clear M; rw [hkq] at HM ⊢; clear hkq; obtain ⟨_, hq⟩ := HM.out.get (r := cellsR kq 4 [.bool true, .bool b2, .bool b3, .bool b4, .bool b5, .bool b6]) pk; refine (contains_bools w3 kq [true, b2, b3, b4, b5, b6] (by simp) hq.2).mono ?_; rintro e w4 ⟨rfl, hE⟩; rw [HN.out]; replace HM := Hd (HM.out.ext hE); clear hE hq; go_wp2_with fail; go_ret2
   exact ⟨rfl, HM.out.extTo⟩
 · have hn := bools6 false b2 b3 b4 b5 b6
   rw [show (!(false && b2 && b3 && b4 && b5 && b6)) = true by simp] at hn; have HN := Hd hn; have HM := Hd (Mem.start0 w); clear h hn; go_enter Tryz.func23, Tryz.ntmps23
   go_wp2_with fail; refine (new_no w most (by omega)).mono ?_; rintro e w2 ⟨rfl, hw⟩; have hE2 : Ext w w2 := by rw [← hw]; exact Keeps.refl _ _
   replace HM := Hd (HM.out.ext hE2); clear hE2 hw; go_wp2_with fail; refine cret (sin_int _ _ _ _) ?_; rw [HB2.out]; go_wp2_with fail; refine cret (sin_i64 _ _ _ _) ?_; rw [HB3.out]; go_wp2_with fail; refine cret (sin_i64 _ _ _ _) ?_; rw [HB4.out]; go_wp2_with fail; refine cret (sin_i64 _ _ _ _) ?_; rw [HB5.out]; go_wp2_with fail; refine cret (sin_i64 _ _ _ _) ?_; rw [HB6.out]; go_wp2_with fail; obtain ⟨kq, hkq⟩ : ∃ k, w2.heap.size = k := ⟨_, rfl⟩; refine nxt HM fun w3 M => ?_
   replace HM := M; clear M; rw [hkq] at HM ⊢; clear hkq; obtain ⟨_, hq⟩ := HM.out.get (r := cellsR kq 4 [.bool false, .bool b2, .bool b3, .bool b4, .bool b5, .bool b6]) pk; refine (contains_bools w3 kq [false, b2, b3, b4, b5, b6] (by simp) hq.2).mono ?_; rintro e w4 ⟨rfl, hE⟩; rw [HN.out]; replace HM := Hd (HM.out.ext hE); clear hE hq; go_wp2_with fail; go_ret2
   exact ⟨rfl, HM.out.extTo⟩
theorem snew_yes (w : World) (member number fr most wait now : Int) (h : newOk member number fr most wait now = true) :
 Calls Tryz.prog 23 #[.int .i64 member, .int .i64 number, .int .i64 fr, .int .i64 most, .int .i64 wait, .int .i64 now] w fun e w' => ∃ sb, e = .returned (.tuple #[.pointer (some ⟨sb, 0, none⟩), .int .i64 0]) ∧ Upd NoB w w' (sesR sb (newS member number fr most.toNat wait now)) := by
 have hm : 1 ≤ most ∧ most ≤ 64 := by unfold newOk at h; simp only [Bool.and_eq_true, decide_eq_true_eq] at h; exact h.1.1.1.1.1
 unfold newOk farN at h; obtain ⟨b2, hb2⟩ : ∃ b, decide (0 ≤ member ∧ member ≤ 15) = b := ⟨_, rfl⟩; obtain ⟨b3, hb3⟩ : ∃ b, decide (0 ≤ number ∧ number ≤ 2147483647) = b := ⟨_, rfl⟩; obtain ⟨b4, hb4⟩ : ∃ b, decide (0 ≤ fr ∧ fr ≤ 2147483647) = b := ⟨_, rfl⟩; obtain ⟨b5, hb5⟩ : ∃ b, decide (1 ≤ wait ∧ wait ≤ 1000000) = b := ⟨_, rfl⟩; obtain ⟨b6, hb6⟩ : ∃ b, decide (0 ≤ now ∧ now ≤ 4611686018427387904) = b := ⟨_, rfl⟩; rw [hb2, hb3, hb4, hb5, hb6] at h; have HB2 := Hd hb2; have HB3 := Hd hb3; have HB4 := Hd hb4; have HB5 := Hd hb5; have HB6 := Hd hb6; clear hb2 hb3 hb4 hb5 hb6; rw [decide_eq_true hm] at h; have hn := bools6 true b2 b3 b4 b5 b6; rw [h, Bool.not_true] at hn; have HN := Hd hn; obtain ⟨m, rfl⟩ : ∃ m : Nat, most = m := ⟨most.toNat, by omega⟩; rw [Int.toNat_natCast]; have HM := Hd (Mem.start0 w); clear h hn; go_enter Tryz.func23, Tryz.ntmps23
 go_wp2_with fail; refine (new_r w m (by omega) (by omega)).mono ?_; rintro e w2 ⟨rb, rfl, hU⟩; replace HM := Hd (HM.out.newU hU); clear hU; go_wp2_with fail; refine cret (sin_int _ _ _ _) ?_; rw [HB2.out]; go_wp2_with fail; refine cret (sin_i64 _ _ _ _) ?_; rw [HB3.out]; go_wp2_with fail; refine cret (sin_i64 _ _ _ _) ?_; rw [HB4.out]; go_wp2_with fail; refine cret (sin_i64 _ _ _ _) ?_; rw [HB5.out]; go_wp2_with fail; refine cret (sin_i64 _ _ _ _) ?_; rw [HB6.out]; go_wp2_with fail; obtain ⟨kq, hkq⟩ : ∃ k, w2.heap.size = k := ⟨_, rfl⟩; refine nxt HM fun w3 M => ?_
 replace HM := M; clear M; rw [hkq] at HM ⊢; clear hkq; obtain ⟨_, hq⟩ := HM.out.get (r := cellsR kq 4 [.bool true, .bool b2, .bool b3, .bool b4, .bool b5, .bool b6]) pk; refine (contains_bools w3 kq [true, b2, b3, b4, b5, b6] (by simp) hq.2).mono ?_; rintro e w4 ⟨rfl, hE⟩; rw [HN.out]; replace HM := Hd (HM.out.ext hE); clear hE hq; go_wp2_with fail; refine nxt HM fun w5 M => ?_
 replace HM := M; clear M; go_ret2
 exact ⟨w4.heap.size, rfl, Mem.sesUpd (rb := rb) (bv := .slice none 0 0) (s := newS member number fr m wait now) (Mem.sub (HM.out.byeNil) sbI)⟩
theorem byeR.bytes {A : Nat → Prop} {w : World} {v : Value} {o : Option (List UInt8)} (h : (byeR v o).p A w) : Bytes w A v (o.getD []) := by
 rcases h with ⟨rfl, rfl, -⟩ | ⟨l, rfl, -, h⟩
 · exact bytes_nil0
 · exact bytR.bytes h
section
abbrev docC (a : Option Addr) (c : Nat) (p : Option Addr) (q : Nat) (s : Ss) : List Value := [.int .i64 s.member, .int .i64 s.number, .int .i64 s.next, .int .i64 s.sent, .int .i64 s.acked, .int .i64 s.heard, .bool s.live, .bool s.closed, .int .i64 0, .int .i64 s.wait, .int .i64 (s.ring.most : Int), .slice a s.ring.items.length c, .int .i64 (s.ring.lost : Int), .slice p (s.bye.getD []).length q, .bool s.bye.isSome]
def DocAt (w : World) (F : Nat → Prop) (v : Value) (s : Ss) : Prop := ∃ a c p q, v = .agg (docC a c p q s).toArray ∧ SlV F (ItemAt w F) 3 (.slice a s.ring.items.length c) s.ring.items ∧ Bytes w F (.slice p (s.bye.getD []).length q) (s.bye.getD [])
section
variable {w w' : World} {S F G : Nat → Prop} {v : Value} {s : Ss}
theorem DocAt.keeps (h : DocAt w F v s) (hk : Keeps S w w') (hs : ∀ k, F k → ¬ S k) : DocAt w' F v s :=
 let ⟨a, c, p, q, h1, h2, h3⟩ := h
 ⟨a, c, p, q, h1, h2.itKeeps hk hs, h3.keeps hk hs⟩
theorem DocAt.ext (h : DocAt w F v s) (e : Ext w w') : DocAt w' F v s := h.keeps e fun _ _ => noB _
theorem DocAt.mono (h : DocAt w F v s) (hs : ∀ k, F k → G k) : DocAt w G v s :=
 let ⟨a, c, p, q, h1, h2, h3⟩ := h
 ⟨a, c, p, q, h1, h2.itMono hs, h3.mono hs⟩
end
theorem infoSv : (Tryz.prog.info? 68).map (·.size) = some 9 := by kernel_rfl
instance wdN : Wd 0 [] := ⟨rfl, fun _ h => by cases h⟩
instance wdC (n : Nat) (a : Value) (l : List Value) [h : One a] [g : Wd n l] : Wd (n + 1) (a :: l) := ⟨by rw [List.length_cons, g.len], fun u hu => by
 rcases List.mem_cons.1 hu with rfl | hu
 · exact h.out
 · exact g.one u hu⟩
end




theorem snum_any (w : World) (n : Int) : Calls Tryz.prog 25 #[.int .i64 n] w fun e w' => e = .returned (.int .i64 n) ∧ w' = w := by
 go_enter Tryz.func25, Tryz.ntmps25
 go_wp2_with fail; go_ret; exact ⟨rfl, rfl⟩
def nearI (n : Int) : Int := max (-10) (min 100 n)
theorem near_le (n : Int) : -10 ≤ nearI n ∧ nearI n ≤ 100 := by unfold nearI; omega
theorem near_any (w : World) (n : Int) : Calls Tryz.prog 41 #[.int .i64 n] w fun e w' => e = .returned (.int .i64 (nearI n)) ∧ w' = w := by
 go_enter Tryz.func41, Tryz.ntmps41
 go_wp2_with fail; go_ret; exact ⟨rfl, rfl⟩
structure Sc where
 what : Int
 index : Int
 now : Int
 e : En
 token : List UInt8
 said : Sd
abbrev Sc.cells (x : Sc) : List Value := [.int .i64 x.what, .int .i64 x.index, .int .i64 x.now, .int .i64 x.e.kind, .int .i64 x.e.member, .int .i64 x.e.number, .string (bs x.e.text), .string (bs x.token), .int .i64 x.said.kind, .int .i64 x.said.member, .int .i64 x.said.number, .int .i64 x.said.index, .bool x.said.is, .string (bs x.said.text), .string (bs x.said.token), .int .i64 x.said.e.kind, .int .i64 x.said.e.member, .int .i64 x.said.e.number, .string (bs x.said.e.text)]
def Sc.v (x : Sc) : Value := .agg x.cells.toArray
structure OkSc (x : Sc) : Prop where
 ek : I64 x.e.kind
 sk : I64 x.said.kind
 sek : I64 x.said.e.kind
 now : I64 x.now
 index : I64 x.index
structure ShortSc (x : Sc) : Prop where
 e : x.e.text.length ≤ 300
 t : x.token.length ≤ 300
 s1 : x.said.text.length ≤ 300
 s2 : x.said.token.length ≤ 300
 s3 : x.said.e.text.length ≤ 300
def longS (x : Sc) : Bool := decide (300 < x.e.text.length) || decide (300 < x.token.length) || decide (300 < x.said.text.length) || decide (300 < x.said.token.length) || decide (300 < x.said.e.text.length)
theorem short_of {x : Sc} (h : longS x = false) : ShortSc x := by
 unfold longS at h; simp only [Bool.or_eq_false_iff, decide_eq_false_iff_not] at h; obtain ⟨⟨⟨⟨h1, h2⟩, h3⟩, h4⟩, h5⟩ := h; exact ⟨by omega, by omega, by omega, by omega, by omega⟩
def Ss.act (s : Ss) (x : Sc) : Ss :=
 if x.what = 0 then (s.offer (s.next + nearI x.index) x.e x.token).1
 else if x.what = 1 then (s.reach (s.next + nearI x.index)).1
 else if x.what = 2 then (s.beside x.said).1
 else if x.what = 3 then s.take.1
 else if x.what = 4 then (s.ack (s.acked + nearI x.index) (s.heard + nearI x.now)).1
 else if x.what = 5 then (s.hear (s.heard + nearI x.now)).1
 else if x.what = 6 then (s.close x.index).1
 else s
theorem infoSc : (Tryz.prog.info? 79).map (·.size) = some 19 := by kernel_rfl

theorem ShortSc.okS {x : Sc} (h : ShortSc x) (ho : OkSc x) : OkS x.said := ⟨ho.sek, Nat.le_trans h.s1 (by decide), Nat.le_trans h.s2 (by decide), Nat.le_trans h.s3 (by decide)⟩
theorem OkSs.act {s : Ss} {n : Nat} (h : OkSs s n) (x : Sc) : OkSs (s.act x) (n + 1) := by
 unfold Ss.act; split
 · exact h.offer _ _ _
 split
 · exact (h.reach _).mono (Nat.le_succ _)
 split
 · exact h.beside _
 split
 · exact h.take.mono (Nat.le_succ _)
 split
 · exact (h.ack _ _).mono (Nat.le_succ _)
 split
 · exact (h.hear _).mono (Nat.le_succ _)
 split
 · exact (h.close _).mono (Nat.le_succ _)
 exact h.mono (Nat.le_succ _)
def Ss.acts (s : Ss) (l : List Sc) : Ss := l.foldl Ss.act s
theorem OkSs.acts {s : Ss} {n : Nat} (h : OkSs s n) (l : List Sc) : OkSs (s.acts l) (n + l.length) := by
 induction l generalizing s n with
 | nil => exact h
 | cons x l ih =>
   have := ih (h.act x); rw [Nat.add_right_comm, Nat.add_assoc] at this; exact this
theorem slong_any (w : World) (x : Sc) : Calls Tryz.prog 74 #[x.v] w fun e w' => e = .returned (.bool (longS x)) ∧ Ext w w' := by
 have hc : ∀ n : Nat, decide ((300 : Int) < (n : Int)) = decide (300 < n) := fun n => by rw [decide_eq_decide]; omega
 have HL := Hd (show longS x = (decide (300 < x.e.text.length) || decide (300 < x.token.length) || decide (300 < x.said.text.length) || decide (300 < x.said.token.length) || decide (300 < x.said.e.text.length)) from rfl); have HM := Hd (Mem.start0 w); have HV := Hd (show x.v = .agg x.cells.toArray from rfl); rw [HV.out]; have g1 := hc x.e.text.length; have g2 := hc x.token.length; have g3 := hc x.said.text.length; have g4 := hc x.said.token.length; have g5 := hc x.said.e.text.length; have k1 := bs_size x.e.text; have k2 := bs_size x.token; have k3 := bs_size x.said.text; have k4 := bs_size x.said.token; have k5 := bs_size x.said.e.text; clear hc; generalize decide (300 < x.e.text.length) = b1 at g1 HL
 generalize decide (300 < x.token.length) = b2 at g2 HL
 generalize decide (300 < x.said.text.length) = b3 at g3 HL
 generalize decide (300 < x.said.token.length) = b4 at g4 HL
 generalize decide (300 < x.said.e.text.length) = b5 at g5 HL
 cases b1
 case true =>
  go_enter Tryz.func74, Tryz.ntmps74
  have fM := HM.out.fa; go_wp2_with (((with_reducible refine at_box 79 _ rfl ?_); refine boW 79 _ rfl rfl rfl HM.out ?_; intro w9 n9 M); replace HM := Hd M; clear M fM; have fM := HM.out.fa); all_goals clear fM
  go_ret; exact ⟨by rw [HL.out]; rfl, HM.out.extTo⟩
 cases b2
 case true =>
  go_enter Tryz.func74, Tryz.ntmps74
  have fM := HM.out.fa; go_wp2_with (((with_reducible refine at_box 79 _ rfl ?_); refine boW 79 _ rfl rfl rfl HM.out ?_; intro w9 n9 M); replace HM := Hd M; clear M fM; have fM := HM.out.fa); all_goals clear fM
  go_ret; exact ⟨by rw [HL.out]; rfl, HM.out.extTo⟩
 cases b3
 case true =>
  go_enter Tryz.func74, Tryz.ntmps74
  have fM := HM.out.fa; go_wp2_with (((with_reducible refine at_box 79 _ rfl ?_); refine boW 79 _ rfl rfl rfl HM.out ?_; intro w9 n9 M); replace HM := Hd M; clear M fM; have fM := HM.out.fa); all_goals clear fM
  go_ret; exact ⟨by rw [HL.out]; rfl, HM.out.extTo⟩
 cases b4
 case true =>
  go_enter Tryz.func74, Tryz.ntmps74
  have fM := HM.out.fa; go_wp2_with (((with_reducible refine at_box 79 _ rfl ?_); refine boW 79 _ rfl rfl rfl HM.out ?_; intro w9 n9 M); replace HM := Hd M; clear M fM; have fM := HM.out.fa); all_goals clear fM
  go_ret; exact ⟨by rw [HL.out]; rfl, HM.out.extTo⟩
 cases b5
 case true =>
  go_enter Tryz.func74, Tryz.ntmps74
  have fM := HM.out.fa; go_wp2_with (((with_reducible refine at_box 79 _ rfl ?_); refine boW 79 _ rfl rfl rfl HM.out ?_; intro w9 n9 M); replace HM := Hd M; clear M fM; have fM := HM.out.fa); all_goals clear fM
  go_ret; exact ⟨by rw [HL.out]; rfl, HM.out.extTo⟩
 go_enter Tryz.func74, Tryz.ntmps74
 have fM := HM.out.fa; go_wp2_with (((with_reducible refine at_box 79 _ rfl ?_); refine boW 79 _ rfl rfl rfl HM.out ?_; intro w9 n9 M); replace HM := Hd M; clear M fM; have fM := HM.out.fa); all_goals clear fM
 go_ret; exact ⟨by rw [HL.out]; rfl, HM.out.extTo⟩
def Scs (w : World) (A : Nat → Prop) (v : Value) (ls : List Sc) : Prop := SlV A (AtOf w 19 fun cs (x : Sc) => cs = x.cells ∧ OkSc x) 19 v ls
theorem Scs.len {w : World} {A : Nat → Prop} {v : Value} {ls : List Sc} (h : Scs w A v ls) : ∃ a c, v = .slice a ls.length c := by
 rcases h with ⟨a, rfl, rfl⟩ | ⟨b, o, c, rfl, _⟩
 · exact ⟨_, _, rfl⟩
 · exact ⟨_, _, rfl⟩
theorem Scs.at {w : World} {A : Nat → Prop} {a : Option Addr} {n c : Nat} {ls : List Sc} (h : Scs w A (.slice a n c) ls) (i : Nat) (hi : i < ls.length) :
 ∃ g o, a = some ⟨g, o, none⟩ ∧ n = ls.length ∧ A g ∧ OkSc ls[i] ∧ ∀ j, j < 19 → w.cell? ⟨g, o + i * 19 + j, none⟩ = (ls[i].cells)[j]? := by
 rcases h with ⟨a', h1, h2⟩ | ⟨b, o, c', h1, h2, h3, h4⟩
 · rw [h2] at hi; cases hi
 · cases h1
   obtain ⟨cs, ⟨e1, e2⟩, e4, e5⟩ := h4 i hi; rw [e1] at e5; exact ⟨b, o, rfl, rfl, h3, e2, e5⟩
theorem sc_load {w : World} {g o : Nat} {x : Sc} (h : ∀ j, j < 19 → w.cell? ⟨g, o + j, none⟩ = (x.cells)[j]?) : (Instr.loadAt 79 (.pointer (some ⟨g, o, none⟩))).run Tryz.prog w = .ok (.agg x.cells.toArray) w :=
 run_loadAt_mid w g o 79 x.cells _ (fun j v hv => by
  have hj : j < 19 := by
   have := (List.getElem?_eq_some_iff.1 hv).1; exact this
  have h1 := h j hj; rw [hv] at h1; exact h1) Tryz.underlying79 rfl infoSc
theorem elM' {P : Program} {o : Oper} {a : Act} {w : World} {b k : Nat} {v : Value} (ty : TypeId) (x : Operand) (ho : o.op = .load ty x) (hx : a.eval x = .pointer (some ⟨b, k, none⟩)) (h : (Instr.loadAt ty (.pointer (some ⟨b, k, none⟩))).run P w = .ok v w) : (execOp a.eval o).run P w = .ok (.value v) w := by
 simp [execOp, ho, hx, Result.andThen, h]
theorem few_any {A : Nat → Prop} (w : World) (v : Value) (ls : List Sc) (most : Int) (h : Scs w A v ls) (hl : ls.length ≤ 9223372036854775807) :
 Calls Tryz.prog 21 #[v, .int .i64 most] w fun e w' => e = .returned (.bool ((ls.all fun x => !longS x) && decide ((ls.length : Int) ≤ most))) ∧ Ext w w' := by
 obtain ⟨a, c, rfl⟩ := h.len; have HS := Hd h; clear h; go_enter Tryz.func21, Tryz.ntmps21
 go_wp2_with fail; go_loopw [5] (fun i wr => ∃ j : Nat, j ≤ ls.length ∧ i = .int .i64 j ∧ Hid (((ls.take j).all fun x => !longS x) = true) ∧ Hid (Mem NoB w wr [])) (fun i _ => ls.length - (intOf i).toNat)
 case atStart => exact ⟨0, Nat.zero_le _, rfl, Hd (by simp), Hd (Mem.start0 w)⟩
 case round =>
  obtain ⟨j, hj, rfl, HAL, HM⟩ := hrel; by_cases hlt : j < ls.length
  · have g1 : (j : Int) < ls.length := by omega
    have g2 : ¬ (j : Int) < 0 := by omega
    obtain ⟨g, o, rfl, -, -, hok, hat⟩ := HS.out.at j hlt; have HSN := Hd (show ((ls.take (j + 1)).all fun x => !longS x) = (((ls.take j).all fun x => !longS x) && !longS ls[j]) by rw [List.take_succ_eq_append_getElem hlt, List.all_append]; simp); have HIN := Hd (List.getElem_mem hlt); obtain ⟨x, hx⟩ : ∃ x, ls[j] = x := ⟨_, rfl⟩; rw [hx] at hat HSN HIN hok
    have hld := sc_load (w := wr) (g := g) (o := o + j * 19) (x := x) (fun k hk => by
     have h1 := hat k hk; have h2 : x.cells[k]? = some (x.cells[k]'(by exact hk)) := List.getElem?_eq_getElem _; rw [h2] at h1 ⊢; exact HM.out.extTo.cell h1)
    clear hat hx hok; go_wp2_with ((with_reducible refine at_list ?_); (with_reducible refine at_load 79 _ rfl ?_); refine wpList_ran rfl (elM' 79 _ rfl rfl hld) ?_); clear hld; refine (slong_any wr x).mono ?_; rintro e w2 ⟨rfl, hE2⟩; replace HM := Hd (HM.out.ext hE2); clear hE2; cases hm : longS x
    · rw [hm, HAL.out] at HSN
      clear hm; go_wp2_with fail; go_roundw
      case rel => exact ⟨j + 1, by omega, by go_num, HSN, HM⟩
      case measure => simp [intOf]; omega
    · go_wp2_with fail
      go_ret; refine ⟨?_, HM.out.extTo⟩; have h1 : (ls.all fun x => !longS x) = false := List.all_eq_false.2 ⟨x, HIN.out, by rw [hm]; simp⟩; rw [h1, Bool.false_and]; rfl
  · obtain rfl : j = ls.length := by omega
    rw [List.take_length] at HAL; go_wp2_with fail; go_ret; exact ⟨by rw [HAL.out]; simp, HM.out.extTo⟩
theorem OkSs.gives {s : Ss} {n : Nat} (h : OkSs s n) : (s.take.2.getD []).length ≤ 484 := by
 unfold Ss.take; split
 · cases hb : s.bye with
   | none => simp
   | some b => exact (h.byeL b hb).1
 split
 · simp
 split
 · simp
 · next x r e => exact h.its x (by rw [e]; exact List.mem_cons_self ..)
def takenL (s : Ss) : Int := if s.take.2.isSome = false then -1 else if (readL (s.take.2.getD [])).2.2 = 0 ∧ (readL (s.take.2.getD [])).1.kind = 9 then (readL (s.take.2.getD [])).1.index else -2
theorem staken_any {A : Nat → Prop} (w : World) (sb : Nat) (s : Ss) (n : Nat) (hok : OkSs s n) (h : (sesR sb s).p A w) (hX : TabX A w) :
 Calls Tryz.prog 75 #[.pointer (some ⟨sb, 0, none⟩)] w fun e w' => e = .returned (.int .i64 (takenL s)) ∧ Upd A w w' (sesR sb s.take.1) := by
 have HG := Hd hok.gives; have hTL : takenL s = if s.take.2.isSome = false then -1 else if (readL (s.take.2.getD [])).2.2 = 0 ∧ (readL (s.take.2.getD [])).1.kind = 9 then (readL (s.take.2.getD [])).1.index else -2 := rfl
 obtain ⟨b, hb⟩ : ∃ b, s.take.2.isSome = b := ⟨_, rfl⟩; rw [hb] at hTL; have HTL := Hd hTL; clear hTL; go_enter Tryz.func75, Tryz.ntmps75
 go_wp2_with fail; refine (stake_any w sb s n hok h).mono ?_; rintro e w1 ⟨v, rfl, hU, hv⟩; obtain ⟨a, c, rfl⟩ := hv.len; rw [hb]; have HM := Hd (show Mem A w w1 [sesR sb s.take.1] from let ⟨A', p, k, q⟩ := hU; ⟨k, A', SepL.one p, q⟩); have HV := Hd hv; have HT := Hd (tabX_ok.step (A' := A) hX hU.keepsTo (fun _ h => .inl h)).1; clear hX hU hv hok h hb; cases b
 case false =>
  go_wp2_with fail; go_ret; exact ⟨by rw [HTL.out]; rfl, (Mem.sub HM.out (L' := [sesR sb s.take.1]) sbI).upd⟩
 go_wp2_with fail; refine (fread_any w1 w1 HT.out (Keeps.refl _ _) _ (s.take.2.getD []) HV.out (fun k hk => hk.2) (Nat.le_trans HG.out (by decide))).mono ?_; rintro e w2 ⟨rfl, hE2⟩; replace HM := Hd (HM.out.ext hE2); clear hE2; obtain ⟨⟨x, m, no⟩, hz⟩ : ∃ z, readL (s.take.2.getD []) = z := ⟨_, rfl⟩; rw [hz] at HTL ⊢; dsimp only at HTL ⊢; clear hz; unfold Sd.v Sd.cells; by_cases h1 : no = 0
 · have d1 : (no != 0) = false := by simpa using h1
   by_cases h2 : x.kind = 9
   · have d2 : (x.kind != 9) = false := by simpa using h2
     have HL := Hd (show takenL s = x.index by rw [HTL.out, if_neg (by decide), if_pos ⟨h1, h2⟩]); clear h1 h2; have fM := HM.out.fa; go_wp2_with fail; all_goals clear fM
     refine cret (snum_any _ _) ?_; have fM := HM.out.fa; go_wp2_with fail; all_goals clear fM
     go_ret; exact ⟨by rw [HL.out]; rfl, (Mem.sub (HM.out.ext (by repeat (first | exact Keeps.refl _ _ | apply Keeps.alloc))) (L' := [sesR sb s.take.1]) sbI).upd⟩
   · have d2 : (x.kind != 9) = true := by simpa using h2
     have HL := Hd (show takenL s = -2 by rw [HTL.out, if_neg (by decide), if_neg (fun h => h2 h.2)]); clear h1 h2; have fM := HM.out.fa; go_wp2_with fail; all_goals clear fM
     refine cret (snum_any _ _) ?_; have fM := HM.out.fa; go_wp2_with fail; all_goals clear fM
     go_ret; exact ⟨by rw [HL.out]; rfl, (Mem.sub (HM.out.ext (by repeat (first | exact Keeps.refl _ _ | apply Keeps.alloc))) (L' := [sesR sb s.take.1]) sbI).upd⟩
 · have d1 : (no != 0) = true := by simpa using h1
   have HL := Hd (show takenL s = -2 by rw [HTL.out, if_neg (by decide), if_neg (fun h => h1 h.1)]); clear h1; have fM := HM.out.fa; go_wp2_with fail; all_goals clear fM
   refine cret (snum_any _ _) ?_; have fM := HM.out.fa; go_wp2_with fail; all_goals clear fM
   go_ret; exact ⟨by rw [HL.out]; rfl, (Mem.sub (HM.out.ext (by repeat (first | exact Keeps.refl _ _ | apply Keeps.alloc))) (L' := [sesR sb s.take.1]) sbI).upd⟩
section
open Go.RowKit Go.ChangeShapes Go.WideShapes
theorem cellsSc : Tryz.prog.cellsOf 79 = 19 := by kernel_rfl
theorem list19 {cs : List Value} (h : cs.length = 19) : ∃ a b c d e f g i j k l m n o p q r s t, cs = [a, b, c, d, e, f, g, i, j, k, l, m, n, o, p, q, r, s, t] := by
 match cs, h with
 | [a, b, c, d, e, f, g, i, j, k, l, m, n, o, p, q, r, s, t], _ => exact ⟨a, b, c, d, e, f, g, i, j, k, l, m, n, o, p, q, r, s, t, rfl⟩
section
variable {H : Type} {enc : TypeId × Value → H} {w : World}
theorem rd_sc : Rd enc Tryz.prog w 79 fun cs (x : Sc) => cs = x.cells ∧ OkSc x := fun fuel cs x h => by
 obtain ⟨hl, hf⟩ := rd_field Tryz.underlying79 h; rw [cellsSc] at hl; obtain ⟨c0, c1, c2, c3, c4, c5, c6, c7, c8, c9, c10, c11, c12, c13, c14, c15, c16, c17, c18, rfl⟩ := list19 hl; obtain ⟨k0, h0, g0⟩ := hf 0 _ 0 1 rfl rfl cellsI (rd_int Tryz.underlying3); obtain ⟨k1, h1, g1⟩ := hf 1 _ 1 1 rfl rfl cellsI64 (rd_int Tryz.underlying2); obtain ⟨k2, h2, g2⟩ := hf 2 _ 2 1 rfl rfl cellsI64 (rd_int Tryz.underlying2); obtain ⟨e, h3, g3, g3'⟩ := hf 3 _ 3 4 rfl rfl cellsEn rd_en; obtain ⟨l, h4, g4⟩ := hf 4 _ 7 1 rfl rfl cellsS (rd_string Tryz.underlying9); obtain ⟨s, h5, g5, g6⟩ := hf 5 _ 8 11 rfl rfl cellsSd rd_sd; simp at h0 h1 h2 h3 h4 h5; have h6 : [c3, c4, c5, c6] = e.cells := by simpa using h3
 have h7 : [c8, c9, c10, c11, c12, c13, c14, c15, c16, c17, c18] = s.cells := by simpa using h5
 cases h6
 cases h7
 exact ⟨⟨k0, k1, k2, e, l, s⟩, by rw [h0, h1, h2, h4], ⟨g3, g6, g5.ek, i64_of g2, i64_of g1⟩⟩
theorem open_scs {v : Value} {d : DataW H} {p : List MemPlace} {b : Nat} (hv : Value.okWide Tryz.prog w .any b 62 v) (h : DataW.Trod enc Tryz.prog w 0 (fun _ => true) true 62 v d p) :
 ∃ l : List Sc, Scs w (Old w) v l ∧ l.length ≤ 9223372036854775807 := by
 obtain ⟨fuel, hf⟩ := h; obtain ⟨l, x, h1, h2, h3⟩ := rd_slice 19 Tryz.underlying62 cellsSc (by decide) rd_sc fuel _ _ hf; rw [ok_slice Tryz.underlying62 hv] at h1; cases h1
 exact ⟨l, h2, h3⟩
end
end
def NoS (w : World) (p : Option Addr) : Prop := p = none ∨ ∃ b, p = some ⟨b, 0, none⟩ ∧ w.cell? ⟨b, 0, none⟩ = some (.pointer none)
theorem NoS.ext {w w' : World} {p : Option Addr} (h : NoS w p) (e : Ext w w') : NoS w' p := h.imp id fun ⟨b, h1, h2⟩ => ⟨b, h1, e.cell h2⟩
section
open Go.RowKit Go.ChangeShapes Go.WideShapes
section
variable {H : Type} {enc : TypeId × Value → H} {w : World}
end
end
end Go.Proofs.YtoadjbgpfihoiaaGreatDoor
