/- Texts RdrT, RdrE, WR, one behind the other. Conditions: as each says. -/
import Derived.Test.YtoadjbgpfihoiaaGreatDoorPlP
set_option linter.unusedVariables false
set_option linter.unusedSimpArgs false
set_option maxHeartbeats 8000000
set_option maxRecDepth 100000
namespace Go.Proofs.YtoadjbgpfihoiaaGreatDoor
open Go.RowKit
def txtX (kr kg kn kl b : Nat) (g : Int) (s : List UInt8) : Res := listR [cellsR kr 308 [.pointer (some ⟨b, 0, none⟩)], cellsR kg 3 [.int .i64 g], cellsR kn 9 [.string (bs s)], cellsR kl 4 [.bool (decide (g < 0))]]
theorem Mem.shutTX {F : Nat → Prop} {w0 w : World} {L : List Res} {kr kg kn kl b : Nat} {g : Int} {s : List UInt8} (h : Mem F w0 w (cellsR kr 308 [.pointer (some ⟨b, 0, none⟩)] :: cellsR kg 3 [.int .i64 g] :: cellsR kn 9 [.string (bs s)] :: cellsR kl 4 [.bool (decide (g < 0))] :: L)) : Mem F w0 w (txtX kr kg kn kl b g s :: L) :=
 Mem.list' (L1 := [cellsR kr 308 [.pointer (some ⟨b, 0, none⟩)], cellsR kg 3 [.int .i64 g], cellsR kn 9 [.string (bs s)], cellsR kl 4 [.bool (decide (g < 0))]]) h
theorem Mem.openTX {F : Nat → Prop} {w0 w : World} {L : List Res} {kr kg kn kl b : Nat} {g : Int} {s : List UInt8} (h : Mem F w0 w (txtX kr kg kn kl b g s :: L)) : Mem F w0 w (cellsR kr 308 [.pointer (some ⟨b, 0, none⟩)] :: cellsR kg 3 [.int .i64 g] :: cellsR kn 9 [.string (bs s)] :: cellsR kl 4 [.bool (decide (g < 0))] :: L) :=
 Mem.unlist (L1 := [cellsR kr 308 [.pointer (some ⟨b, 0, none⟩)], cellsR kg 3 [.int .i64 g], cellsR kn 9 [.string (bs s)], cellsR kl 4 [.bool (decide (g < 0))]]) h
theorem Mem.apart2 {F : Nat → Prop} {w0 w : World} {L L1 L2 L3 : List Res} {r : Res} {b1 b2 : Nat} {t1 t2 : TypeId} {c1 c2 : List Value} (h : Mem F w0 w L) (p : Pick L r L1) (p1 : Pick L1 (cellsR b1 t1 c1) L2) (p2 : Pick L1 (cellsR b2 t2 c2) L3) :
 ∃ C, r.p C w ∧ ¬ C b1 ∧ ¬ C b2 ∧ ∀ (r' : Res) (w' : World), Upd C w w' r' → Mem F w0 w' (r' :: L1) := by
 have hm := h.pick p; obtain ⟨C, hC, -, hS⟩ := hm.step'; obtain ⟨a, G, ⟨A, B, h1, h2, h3, h4⟩, c⟩ := hm
 have f : ∀ {b : Nat} {t : TypeId} {cs : List Value} {L' : List Res}, Pick L1 (cellsR b t cs) L' → B b := fun q => by
  obtain ⟨A', B', g1, g2, g3, g4⟩ := q.sep h2; exact (g4 _).2 (.inl ((g1.1 _).2 rfl))
 refine ⟨A, h1, fun hA => h3 _ hA (f p1), fun hA => h3 _ hA (f p2), fun r' w' hU => ?_⟩; obtain ⟨A', u1, u2, u3⟩ := hU; have hA := fun k hk => c k ((h4 k).2 (.inl hk))
 have hB := fun k hk => c k ((h4 k).2 (.inr hk))
 have hlt := h2.lt; refine ⟨a.then u2 fun i hi h => ?_, fun k => A' k ∨ B k, ⟨A', B, u1, h2.keeps u2 fun k hk hA' => h3 k hA' hk, fun k h5 h6 => ?_, fun k => Iff.rfl⟩, fun k hk => ?_⟩
 · rcases hA i h with h | h
   · exact h
   · omega
 · rcases u3 k h5 with h | h
   · exact h3 k h h6
   · have := hlt k h6; omega
 · rcases hk with hk | hk
   · rcases u3 k hk with h | h
     · exact hA k h
     · have := a.size; exact .inr (by omega)
   · exact hB k hk
theorem bs_nil : bs [] = ⟨#[]⟩ := rfl
theorem text1_low {B : Nat → Prop} (w : World) (kr kg kn kl b : Nat) (g : Int) (r : Rdr) (hl : r.b.length ≤ 70368744177664) (hg : g < 0) (h : SepL [readerR b r, txtX kr kg kn kl b g []] B w) :
 Calls Tryz.prog 300 #[.pointer (some ⟨kl, 0, none⟩), .pointer (some ⟨kr, 0, none⟩), .pointer (some ⟨kg, 0, none⟩), .pointer (some ⟨kn, 0, none⟩)] w fun e w' => e = (if true = true then .returned (.tuple #[]) else brokenE) ∧ Upd B w w' (listR [readerR b r, txtX kr kg kn kl b g []]) := by
 have HLL := Hd hl; have HM := Hd (Mem.start (F := B) (r := listR [readerR b r, txtX kr kg kn kl b g []]) h).unlist; simp only [List.cons_append, List.nil_append] at HM; replace HM := Hd (HM.out.pick (r := txtX kr kg kn kl b g []) pk).openTX; clear h hl; go_enter Tryz.func300, Tryz.ntmps300
 have fM := HM.out.fa; go_wp2_with fail; all_goals clear fM
 go_end0
 refine ⟨rfl, ?_⟩; exact (Mem.list' (L1 := [readerR b r, txtX kr kg kn kl b g []]) (L := []) (Mem.sub (Mem.shutTX (kr := kr) (kg := kg) (kn := kn) (kl := kl) (b := b) (g := g) (s := []) (L := [readerR b r]) (Mem.sub HM.out (by repeat first | exact Sub.nil | refine Sub.cons (by with_reducible repeat first | exact ph | apply pt) ?_))) (by repeat first | exact Sub.nil | refine Sub.cons (by with_reducible repeat first | exact ph | apply pt) ?_))).upd
theorem text1_ok {B : Nat → Prop} (w : World) (kr kg kn kl b : Nat) (g : Int) (n k : Nat) (r : Rdr) (hl : r.b.length ≤ 70368744177664) (hg : ¬ g < 0) (hk : takeL r.b = (n, (k : Int))) (hk0 : 0 < k) (hn : (n : Int) ≤ g) (hn2 : n ≤ (r.b.drop k).length) (h : SepL [readerR b r, txtX kr kg kn kl b g []] B w) :
 Calls Tryz.prog 300 #[.pointer (some ⟨kl, 0, none⟩), .pointer (some ⟨kr, 0, none⟩), .pointer (some ⟨kg, 0, none⟩), .pointer (some ⟨kn, 0, none⟩)] w fun e w' => e = (if true = true then .returned (.tuple #[]) else brokenE) ∧ Upd B w w' (listR [readerR b ⟨(r.b.drop k).drop n, r.e⟩, txtX kr kg kn kl b g ((r.b.drop k).take n)]) := by
 have HK := Hd (show _ ∧ _ ∧ _ ∧ _ from ⟨hk, hk0, hn, hn2⟩); clear hk hk0 hn hn2; have HLL := Hd hl; have HM := Hd (Mem.start (F := B) (r := listR [readerR b r, txtX kr kg kn kl b g []]) h).unlist; simp only [List.cons_append, List.nil_append] at HM; replace HM := Hd (HM.out.pick (r := txtX kr kg kn kl b g []) pk).openTX; clear h hl; go_enter Tryz.func300, Tryz.ntmps300
 have fM := HM.out.fa; go_wp2_with fail; all_goals clear fM
 obtain ⟨C, hC, ha1, ha2, hS⟩ := HM.out.apart2 (r := readerR b r) (b1 := kr) (b2 := kg) (by with_reducible repeat first | exact ph | apply pt) (by with_reducible repeat first | exact ph | apply pt) (by with_reducible repeat first | exact ph | apply pt); have fM := HM.out.fa; have hE0 : Keeps (C) w w.drew := (Keeps.refl _ _).drew; refine rgK (C) [(1, 0), (0, 1), (0, 2), (3, 3), (3, 4), (2, 5)] [0] [5, 6, 7, 8] [6, 7, 8] ?_; simp only [planL, nL]; refine pK rfl (fun W => by go_simp <;> with_reducible rfl) ?_; simp only [nP]; iterate 2 (refine pR rfl (fun W => by go_simp <;> with_reducible rfl) ?_; simp only [nP])
 iterate 2 (refine pX rfl (by go_simp <;> with_reducible rfl) ?_; simp only [nP])
 refine plan_does rfl (fun K hK => ?_); go_wp2_with fail; refine (rnum_ok _ b n g k r HLL.out HK.out.1 HK.out.2.1 HK.out.2.2.1 (Res.keeps _ hC (Ext.drew0 w) (fun _ _ => noB _))).mono ?_; rintro e w2 ⟨rfl, hU⟩; have hU2 := hU.pre (Ext.drew0 w); have hE1 := hU2.keepsTo; clear hU; refine hK _ _ ⟨ClsK.of (by assumption), ?_⟩; clear hK K; try simp only [nP]
 refine plan_nil ?_; simp only [tailL, List.filterMap_cons, List.filterMap_nil, nL]; change wpList _ _ _ (_ :: _ :: _ :: []) _ _; clear fM; replace HM := Hd (hS _ _ hU2); clear hU2 hE1 hE0 hS hC ha1 ha2; obtain ⟨q, hq⟩ : ∃ q, r.b.drop k = q := ⟨_, rfl⟩; have HQL := Hd (show q.length ≤ 70368744177664 by rw [← hq, List.length_drop]; have := HLL.out; omega); have HN2 := Hd HK.out.2.2.2; rw [hq] at HM HN2; have HQ := Hd hq; clear hq; have fM := HM.out.fa; go_wp2_with fail; all_goals clear fM
 obtain ⟨D, hD, hS⟩ := (HM.out.pick (r := readerR b ⟨q, r.e⟩) pk).step; refine (ltake_ok w2 b n ⟨q, r.e⟩ HQL.out HN2.out hD).mono ?_; rintro e w3 ⟨⟨a1, c1, B1, rfl, hb1⟩, hU⟩; replace HM := Hd (hS _ _ hU); have hcv := hb1.str; clear hU hS hD hb1; have fM := HM.out.fa; go_wp2_with fail; all_goals clear fM
 refine nxt HM fun w4 M => ?_
 replace HM := M; clear M; go_end0
 rw [HQ.out]; refine ⟨by simp, ?_⟩; obtain ⟨s, hs⟩ : ∃ s, q.take n = s := ⟨_, rfl⟩; rw [hs] at HM ⊢; rw [show List.drop (k + n) r.b = q.drop n by rw [← HQ.out, List.drop_drop]]; exact (Mem.list' (L1 := [readerR b ⟨q.drop n, r.e⟩, txtX kr kg kn kl b g s]) (L := []) (Mem.sub (Mem.shutTX (kr := kr) (kg := kg) (kn := kn) (kl := kl) (b := b) (g := g) (s := s) (L := [readerR b ⟨q.drop n, r.e⟩]) (Mem.sub HM.out (by repeat first | exact Sub.nil | refine Sub.cons (by with_reducible repeat first | exact ph | apply pt) ?_))) (by repeat first | exact Sub.nil | refine Sub.cons (by with_reducible repeat first | exact ph | apply pt) ?_))).upd
theorem text1_bad {B : Nat → Prop} (w : World) (kr kg kn kl b : Nat) (g : Int) (r : Rdr) (hl : r.b.length ≤ 70368744177664) (hg : ¬ g < 0) (hk : ¬ (0 < (takeL r.b).2 ∧ ((takeL r.b).1 : Int) ≤ g)) (h : SepL [readerR b r, txtX kr kg kn kl b g []] B w) :
 Calls Tryz.prog 300 #[.pointer (some ⟨kl, 0, none⟩), .pointer (some ⟨kr, 0, none⟩), .pointer (some ⟨kg, 0, none⟩), .pointer (some ⟨kn, 0, none⟩)] w fun e w' => e = (if false = true then .returned (.tuple #[]) else brokenE) ∧ Upd B w w' (listR [readerR b r, txtX kr kg kn kl b g []]) := by
 have HK := Hd hk; clear hk; have HLL := Hd hl; have HM := Hd (Mem.start (F := B) (r := listR [readerR b r, txtX kr kg kn kl b g []]) h).unlist; simp only [List.cons_append, List.nil_append] at HM; replace HM := Hd (HM.out.pick (r := txtX kr kg kn kl b g []) pk).openTX; clear h hl; go_enter Tryz.func300, Tryz.ntmps300
 have fM := HM.out.fa; go_wp2_with fail; all_goals clear fM
 obtain ⟨C, hC, ha1, ha2, hS⟩ := HM.out.apart2 (r := readerR b r) (b1 := kr) (b2 := kg) (by with_reducible repeat first | exact ph | apply pt) (by with_reducible repeat first | exact ph | apply pt) (by with_reducible repeat first | exact ph | apply pt); have fM := HM.out.fa; have hE0 : Keeps (C) w w.drew := (Keeps.refl _ _).drew; refine rgK (C) [(1, 0), (0, 1), (0, 2), (3, 3), (3, 4), (2, 5)] [0] [5, 6, 7, 8] [6, 7, 8] ?_; simp only [planL, nL]; refine pK rfl (fun W => by go_simp <;> with_reducible rfl) ?_; simp only [nP]; iterate 2 (refine pR rfl (fun W => by go_simp <;> with_reducible rfl) ?_; simp only [nP])
 iterate 2 (refine pX rfl (by go_simp <;> with_reducible rfl) ?_; simp only [nP])
 refine plan_does rfl (fun K hK => ?_); go_wp2_with fail; refine (rnum_bad _ b g r HLL.out HK.out (Res.keeps _ hC (Ext.drew0 w) (fun _ _ => noB _))).mono ?_; rintro e w' ⟨rfl, hwq⟩; rw [hwq]; clear hwq w'; simp only [brokenE]; refine ⟨rfl, rfl, ?_⟩; clear hK K hE0 hS ha1 ha2 hC; clear fM; replace HM := Hd HM.out.drew; exact (Mem.list' (L1 := [readerR b r, txtX kr kg kn kl b g []]) (L := []) (Mem.sub (Mem.shutTX (kr := kr) (kg := kg) (kn := kn) (kl := kl) (b := b) (g := g) (s := []) (L := [readerR b r]) (Mem.sub HM.out (by repeat first | exact Sub.nil | refine Sub.cons (by with_reducible repeat first | exact ph | apply pt) ?_))) (by repeat first | exact Sub.nil | refine Sub.cons (by with_reducible repeat first | exact ph | apply pt) ?_))).upd
theorem text1_bad2 {B : Nat → Prop} (w : World) (kr kg kn kl b : Nat) (g : Int) (n k : Nat) (r : Rdr) (hl : r.b.length ≤ 70368744177664) (hg : ¬ g < 0) (hk : takeL r.b = (n, (k : Int))) (hk0 : 0 < k) (hn : (n : Int) ≤ g) (hn2 : (r.b.drop k).length < n) (h : SepL [readerR b r, txtX kr kg kn kl b g []] B w) :
 Calls Tryz.prog 300 #[.pointer (some ⟨kl, 0, none⟩), .pointer (some ⟨kr, 0, none⟩), .pointer (some ⟨kg, 0, none⟩), .pointer (some ⟨kn, 0, none⟩)] w fun e w' => e = (if false = true then .returned (.tuple #[]) else brokenE) ∧ Upd B w w' (listR [readerR b ⟨r.b.drop k, r.e⟩, txtX kr kg kn kl b g []]) := by
 have HK := Hd (show _ ∧ _ ∧ _ ∧ _ from ⟨hk, hk0, hn, hn2⟩); clear hk hk0 hn hn2; have HLL := Hd hl; have HM := Hd (Mem.start (F := B) (r := listR [readerR b r, txtX kr kg kn kl b g []]) h).unlist; simp only [List.cons_append, List.nil_append] at HM; replace HM := Hd (HM.out.pick (r := txtX kr kg kn kl b g []) pk).openTX; clear h hl; go_enter Tryz.func300, Tryz.ntmps300
 have fM := HM.out.fa; go_wp2_with fail; all_goals clear fM
 obtain ⟨C, hC, ha1, ha2, hS⟩ := HM.out.apart2 (r := readerR b r) (b1 := kr) (b2 := kg) (by with_reducible repeat first | exact ph | apply pt) (by with_reducible repeat first | exact ph | apply pt) (by with_reducible repeat first | exact ph | apply pt); have fM := HM.out.fa; have hE0 : Keeps (C) w w.drew := (Keeps.refl _ _).drew; refine rgK (C) [(1, 0), (0, 1), (0, 2), (3, 3), (3, 4), (2, 5)] [0] [5, 6, 7, 8] [6, 7, 8] ?_; simp only [planL, nL]; refine pK rfl (fun W => by go_simp <;> with_reducible rfl) ?_; simp only [nP]; iterate 2 (refine pR rfl (fun W => by go_simp <;> with_reducible rfl) ?_; simp only [nP])
 iterate 2 (refine pX rfl (by go_simp <;> with_reducible rfl) ?_; simp only [nP])
 refine plan_does rfl (fun K hK => ?_); go_wp2_with fail; refine (rnum_ok _ b n g k r HLL.out HK.out.1 HK.out.2.1 HK.out.2.2.1 (Res.keeps _ hC (Ext.drew0 w) (fun _ _ => noB _))).mono ?_; rintro e w2 ⟨rfl, hU⟩; have hU2 := hU.pre (Ext.drew0 w); have hE1 := hU2.keepsTo; clear hU; refine hK _ _ ⟨ClsK.of (by assumption), ?_⟩; clear hK K; try simp only [nP]
 refine plan_nil ?_; simp only [tailL, List.filterMap_cons, List.filterMap_nil, nL]; change wpList _ _ _ (_ :: _ :: _ :: []) _ _; clear fM; replace HM := Hd (hS _ _ hU2); clear hU2 hE1 hE0 hS hC ha1 ha2; have fM := HM.out.fa; go_wp2_with fail; all_goals clear fM
 obtain ⟨AhD, hD⟩ := HM.out.get (r := readerR b ⟨r.b.drop k, r.e⟩) pk; refine (ltake_bad w2 b n ⟨r.b.drop k, r.e⟩ (by rw [List.length_drop]; have := HLL.out; omega) HK.out.2.2.2 hD).mono ?_; rintro e w' ⟨rfl, hwq⟩; rw [hwq]; clear hwq w' hD; simp only [brokenE]; refine ⟨rfl, rfl, ?_⟩; exact (Mem.list' (L1 := [readerR b ⟨r.b.drop k, r.e⟩, txtX kr kg kn kl b g []]) (L := []) (Mem.sub (Mem.shutTX (kr := kr) (kg := kg) (kn := kn) (kl := kl) (b := b) (g := g) (s := []) (L := [readerR b ⟨r.b.drop k, r.e⟩]) (Mem.sub HM.out (by repeat first | exact Sub.nil | refine Sub.cons (by with_reducible repeat first | exact ph | apply pt) ?_))) (by repeat first | exact Sub.nil | refine Sub.cons (by with_reducible repeat first | exact ph | apply pt) ?_))).upd
theorem rtext_any {A : Nat → Prop} (w : World) (b : Nat) (g : Int) (r : Rdr) (hl : r.b.length ≤ 70368744177664) (h : (readerR b r).p A w) :
 Calls Tryz.prog 284 #[.pointer (some ⟨b, 0, none⟩), .int .i64 g] w fun e w' => e = .returned (.tuple #[.string (bs (r.txt g).2.1), .int .i64 (r.txt g).2.2]) ∧ Upd A w w' (readerR b (r.txt g).1) := by
 have hmf : ∀ (fn : Fn) (first cap : Array Value) (w : World), (Instr.makeFunc fn first cap).run Tryz.prog w = .ok (.func fn first cap) w := fun _ _ _ _ => rfl
 have HM := Hd (Mem.start (r := readerR b r) h); have HLL := Hd hl; clear h hl; go_enter Tryz.func284, Tryz.ntmps284
 have fM := HM.out.fa; go_wp2_with fail; all_goals clear fM
 refine nxt HM fun w1 M => ?_
 replace HM := M; clear M; obtain ⟨kr, hkr⟩ : ∃ k, w.heap.size = k := ⟨_, rfl⟩; obtain ⟨kg, hkg⟩ : ∃ k, kr + 1 = k := ⟨_, rfl⟩; obtain ⟨kn, hkn⟩ : ∃ k, kg + 1 = k := ⟨_, rfl⟩; obtain ⟨kl, hkl⟩ : ∃ k, kn + 1 = k := ⟨_, rfl⟩; rw [hkr, hkg, hkn, hkl] at HM ⊢; rw [← bs_nil] at HM; clear hkr hkg hkn hkl; have hen := enters_of (P := Tryz.prog) Tryz.func300 (by kernel_rfl) rfl; replace HM := Hd (Mem.list' (L1 := [readerR b r, txtX kr kg kn kl b g []]) (L := []) (Mem.sub (Mem.shutTX (kr := kr) (kg := kg) (kn := kn) (kl := kl) (b := b) (g := g) (s := []) (L := [readerR b r]) (Mem.sub HM.out (by repeat first | exact Sub.nil | refine Sub.cons (by with_reducible repeat first | exact ph | apply pt) ?_))) (by repeat first | exact Sub.nil | refine Sub.cons (by with_reducible repeat first | exact ph | apply pt) ?_))); obtain ⟨C, hC, hS⟩ := HM.out.step; by_cases hr : r.e = 0
 case neg =>
  have hq : r.txt g = (r, [], r.e) := by unfold Rdr.txt Rdr.num; rw [if_pos hr]; exact if_pos hr
  have HQ := Hd hq; have HR := Hd hr; clear hq hr; refine (try_err w1 b r _ _ HR.out hC).mono ?_; rintro e w2 ⟨rfl, hU⟩; replace HM := Hd (hS _ _ hU).unlist; simp only [List.cons_append, List.nil_append] at HM; replace HM := Hd (HM.out.pick (r := txtX kr kg kn kl b g []) pk).openTX; clear hU hS hC C hen hmf; have hr' : (r.e == 0) = false := by simpa using HR.out
  have fM := HM.out.fa; go_wp2_with fail; all_goals clear fM
  refine nxt HM fun w3 M => ?_
  replace HM := M; clear M; obtain ⟨Ahb, hb⟩ := HM.out.get (r := cellsR kn 9 [.string (bs [])]) pk; have hc := hb.2.reads.1; rw [HQ.out]; refine bodyPost_ret (v := .tuple #[.string (bs []), .int .i64 _]) (by simp [results, Tryz.results284, go_sem, hc]; try rfl) rfl ⟨rfl, ?_⟩; exact (HM.out.pick (r := readerR b r) pk).upd
 have hne : ¬ r.e ≠ 0 := by simpa using hr
 by_cases hg : g < 0
 · have hq : r.txt g = (r, [], 2) := by unfold Rdr.txt Rdr.num; rw [if_neg hne, if_pos hg]; rfl
   have HQ := Hd hq; clear hq hne; refine (try_any w1 b _ _ r r _ _ true hr hen hC fun B w2 h2 => text1_low w2 kr kg kn kl b g r HLL.out hg h2).mono ?_; rintro e w2 ⟨rfl, hU⟩; simp only [if_true] at hU ⊢; replace HM := Hd (hS _ _ hU).unlist; simp only [List.cons_append, List.nil_append] at HM; replace HM := Hd (HM.out.pick (r := txtX kr kg kn kl b g []) pk).openTX; clear hU hS hC C hen hmf; have hg' : decide (g < 0) = true := decide_eq_true hg; clear hr; have fM := HM.out.fa; go_wp2_with fail; all_goals clear fM
   refine nxt HM fun w3 M => ?_
   replace HM := M; clear M; obtain ⟨Ahb, hb⟩ := HM.out.get (r := cellsR kn 9 [.string (bs [])]) pk; have hc := hb.2.reads.1; rw [HQ.out]; refine bodyPost_ret (v := .tuple #[.string (bs []), .int .i64 _]) (by simp [results, Tryz.results284, go_sem, hc]; try rfl) rfl ⟨rfl, ?_⟩; exact (HM.out.pick (r := readerR b r) pk).upd
 by_cases hk : 0 < (takeL r.b).2 ∧ ((takeL r.b).1 : Int) ≤ g
 · obtain ⟨k, hkk⟩ : ∃ k : Nat, (takeL r.b).2 = k := ⟨(takeL r.b).2.toNat, by omega⟩
   obtain ⟨n, hn⟩ : ∃ n, (takeL r.b).1 = n := ⟨_, rfl⟩; have ht : takeL r.b = (n, (k : Int)) := by rw [← hn, ← hkk]
   rw [hkk, hn] at hk
   have hq0 : r.num g = (⟨r.b.drop k, 0⟩, n, 0) := by
    unfold Rdr.num; rw [if_neg hne, if_neg hg, ht, if_pos hk]; rfl
   by_cases hn2 : n ≤ (r.b.drop k).length
   · have hq : r.txt g = (⟨(r.b.drop k).drop n, r.e⟩, (r.b.drop k).take n, 0) := by
      unfold Rdr.txt; rw [hq0, hr]; exact (if_neg (by simp)).trans (if_pos hn2)
     have HQ := Hd hq; clear hq hkk hn hq0 hne; refine (try_any w1 b _ _ r ⟨(r.b.drop k).drop n, r.e⟩ _ _ true hr hen hC fun B w2 h2 => text1_ok w2 kr kg kn kl b g n k r HLL.out hg ht (by omega) hk.2 hn2 h2).mono ?_; rintro e w2 ⟨rfl, hU⟩; simp only [if_true] at hU ⊢; obtain ⟨s, hs⟩ : ∃ s, (r.b.drop k).take n = s := ⟨_, rfl⟩; obtain ⟨d, hd⟩ : ∃ d, (r.b.drop k).drop n = d := ⟨_, rfl⟩; rw [hs, hd] at hU HQ; clear hs hd; replace HM := Hd (hS _ _ hU).unlist; simp only [List.cons_append, List.nil_append] at HM; replace HM := Hd (HM.out.pick (r := txtX kr kg kn kl b g s) pk).openTX; clear hU hS hC C hen hmf; clear hr hk ht hn2; have hg' : decide (g < 0) = false := decide_eq_false hg; have fM := HM.out.fa; go_wp2_with fail; all_goals clear fM
     refine nxt HM fun w3 M => ?_
     replace HM := M; clear M; obtain ⟨Ahb, hb⟩ := HM.out.get (r := cellsR kn 9 [.string (bs s)]) pk; have hc := hb.2.reads.1; rw [HQ.out]; refine bodyPost_ret (v := .tuple #[.string (bs s), .int .i64 _]) (by simp [results, Tryz.results284, go_sem, hc]; try rfl) rfl ⟨rfl, ?_⟩; exact (HM.out.pick (r := readerR b ⟨d, r.e⟩) pk).upd
   · have hq : r.txt g = (Rdr.bad, [], 120) := by
      unfold Rdr.txt; rw [hq0]; exact (if_neg (by simp)).trans (if_neg hn2)
     have HQ := Hd hq; clear hq hkk hn hq0 hne; refine (try_any w1 b _ _ r ⟨r.b.drop k, r.e⟩ _ _ false hr hen hC fun B w2 h2 => text1_bad2 w2 kr kg kn kl b g n k r HLL.out hg ht (by omega) hk.2 (by omega) h2).mono ?_; rintro e w2 ⟨rfl, hU⟩; simp only [Bool.false_eq_true, if_false] at hU ⊢; replace HM := Hd (hS _ _ hU).unlist; simp only [List.cons_append, List.nil_append] at HM; replace HM := Hd (HM.out.pick (r := txtX kr kg kn kl b g []) pk).openTX; clear hU hS hC C hen hmf; clear hr hk ht hn2; have fM := HM.out.fa; go_wp2_with fail; all_goals clear fM
     refine nxt HM fun w3 M => ?_
     replace HM := M; clear M; obtain ⟨Ahb, hb⟩ := HM.out.get (r := cellsR kn 9 [.string (bs [])]) pk; have hc := hb.2.reads.1; rw [HQ.out]; refine bodyPost_ret (v := .tuple #[.string (bs []), .int .i64 _]) (by simp [results, Tryz.results284, go_sem, hc]; try rfl) rfl ⟨rfl, ?_⟩; exact (HM.out.pick (r := readerR b Rdr.bad) pk).upd
 · have hq : r.txt g = (Rdr.bad, [], 120) := by unfold Rdr.txt Rdr.num; rw [if_neg hne, if_neg hg, if_neg hk]; rfl
   have HQ := Hd hq; clear hq hne; refine (try_any w1 b _ _ r r _ _ false hr hen hC fun B w2 h2 => text1_bad w2 kr kg kn kl b g r HLL.out hg hk h2).mono ?_; rintro e w2 ⟨rfl, hU⟩; simp only [Bool.false_eq_true, if_false] at hU ⊢; replace HM := Hd (hS _ _ hU).unlist; simp only [List.cons_append, List.nil_append] at HM; replace HM := Hd (HM.out.pick (r := txtX kr kg kn kl b g []) pk).openTX; clear hU hS hC C hen hmf; clear hr hk; have fM := HM.out.fa; go_wp2_with fail; all_goals clear fM
   refine nxt HM fun w3 M => ?_
   replace HM := M; clear M; obtain ⟨Ahb, hb⟩ := HM.out.get (r := cellsR kn 9 [.string (bs [])]) pk; have hc := hb.2.reads.1; rw [HQ.out]; refine bodyPost_ret (v := .tuple #[.string (bs []), .int .i64 _]) (by simp [results, Tryz.results284, go_sem, hc]; try rfl) rfl ⟨rfl, ?_⟩; exact (HM.out.pick (r := readerR b Rdr.bad) pk).upd
def truX (kr ki b : Nat) (x : Bool) : Res := listR [cellsR kr 308 [.pointer (some ⟨b, 0, none⟩)], cellsR ki 4 [.bool x]]
theorem Mem.shutUX {F : Nat → Prop} {w0 w : World} {L : List Res} {kr ki b : Nat} {x : Bool} (h : Mem F w0 w (cellsR kr 308 [.pointer (some ⟨b, 0, none⟩)] :: cellsR ki 4 [.bool x] :: L)) : Mem F w0 w (truX kr ki b x :: L) :=
 Mem.list' (L1 := [cellsR kr 308 [.pointer (some ⟨b, 0, none⟩)], cellsR ki 4 [.bool x]]) h
theorem Mem.openUX {F : Nat → Prop} {w0 w : World} {L : List Res} {kr ki b : Nat} {x : Bool} (h : Mem F w0 w (truX kr ki b x :: L)) : Mem F w0 w (cellsR kr 308 [.pointer (some ⟨b, 0, none⟩)] :: cellsR ki 4 [.bool x] :: L) :=
 Mem.unlist (L1 := [cellsR kr 308 [.pointer (some ⟨b, 0, none⟩)], cellsR ki 4 [.bool x]]) h
theorem truth1_nil {B : Nat → Prop} (w : World) (kr ki b : Nat) (r : Rdr) (hl : r.b.length ≤ 70368744177664) (hn : r.b = []) (h : SepL [readerR b r, truX kr ki b false] B w) :
 Calls Tryz.prog 285 #[.pointer (some ⟨kr, 0, none⟩), .pointer (some ⟨ki, 0, none⟩)] w fun e w' => e = (if false = true then .returned (.tuple #[]) else brokenE) ∧ Upd B w w' (listR [readerR b r, truX kr ki b false]) := by
 have HN := Hd hn; clear hn; have HLL := Hd hl; have HM := Hd (Mem.start (F := B) (r := listR [readerR b r, truX kr ki b false]) h).unlist; simp only [List.cons_append, List.nil_append] at HM; replace HM := Hd (HM.out.pick (r := truX kr ki b false) pk).openUX; clear h hl; go_enter Tryz.func285, Tryz.ntmps285
 have fM := HM.out.fa; go_wp2_with fail; all_goals clear fM
 obtain ⟨AhC, hC⟩ := HM.out.get (r := readerR b r) pk; refine (ltake_bad w b 1 r HLL.out (by rw [HN.out]; decide) hC).mono ?_; rintro e w' ⟨rfl, hwq⟩; rw [hwq]; clear hwq w' hC; simp only [brokenE]; go_wp2_with fail; refine ⟨rfl, rfl, ?_⟩; exact (Mem.list' (L1 := [readerR b r, truX kr ki b false]) (L := []) (Mem.sub (Mem.shutUX (kr := kr) (ki := ki) (b := b) (x := false) (L := [readerR b r]) (Mem.sub HM.out (by repeat first | exact Sub.nil | refine Sub.cons (by with_reducible repeat first | exact ph | apply pt) ?_))) (by repeat first | exact Sub.nil | refine Sub.cons (by with_reducible repeat first | exact ph | apply pt) ?_))).upd
theorem truth1_ok {B : Nat → Prop} (w : World) (kr ki b : Nat) (c : UInt8) (l : List UInt8) (z : Int) (hl : (c :: l).length ≤ 70368744177664) (hc : c.toNat ≤ 1) (h : SepL [readerR b ⟨c :: l, z⟩, truX kr ki b false] B w) :
 Calls Tryz.prog 285 #[.pointer (some ⟨kr, 0, none⟩), .pointer (some ⟨ki, 0, none⟩)] w fun e w' => e = (if true = true then .returned (.tuple #[]) else brokenE) ∧ Upd B w w' (listR [readerR b ⟨l, z⟩, truX kr ki b (c.toNat == 1)]) := by
 obtain ⟨r, hr⟩ : ∃ r : Rdr, ⟨c :: l, z⟩ = r := ⟨_, rfl⟩; have HR := Hd hr; rw [show (c :: l).length = r.b.length by rw [← hr]] at hl; rw [hr] at h; clear hr; have hc1 : ((c.toNat : Int) ≤ 1) := by omega
 have hcc : ((c.toNat : Int) == 1) = (c.toNat == 1) := by rw [Bool.eq_iff_iff]; simp; omega
 have HLL := Hd hl; have HM := Hd (Mem.start (F := B) (r := listR [readerR b r, truX kr ki b false]) h).unlist; simp only [List.cons_append, List.nil_append] at HM; replace HM := Hd (HM.out.pick (r := truX kr ki b false) pk).openUX; clear h hl; go_enter Tryz.func285, Tryz.ntmps285
 have fM := HM.out.fa; go_wp2_with fail; all_goals clear fM
 obtain ⟨C, hC, hS⟩ := (HM.out.pick (r := readerR b r) pk).step; refine (ltake_ok w b 1 r HLL.out (by rw [← HR.out]; simp) hC).mono ?_; rintro e w2 ⟨⟨a1, c1, B1, rfl, hb1⟩, hU⟩; rw [← HR.out] at hb1 hU; replace HM := Hd (hS (readerR b ⟨l, z⟩) _ hU); obtain ⟨g, o, rfl, -, hg, hcl⟩ := Bytes.at (l := [c]) hb1 0 (by simp); have hcl' : w2.cell? ⟨g, o, none⟩ = some (.int .u8 (c.toNat : Int)) := hcl; clear hU hS hC hb1 hcl; have fM := HM.out.fa; go_wp2_with fail; all_goals clear fM
 refine (wmust_any _ _).mono ?_; rintro e w' ⟨rfl, hwq⟩; rw [hwq]; clear hwq w'; try rw [decide_eq_true hc1]
 simp only [if_true]; have fM := HM.out.fa; go_wp2_with fail; all_goals clear fM
 refine nxt HM fun w3 M => ?_
 replace HM := M; clear M; go_end0
 refine ⟨by simp, ?_⟩; exact (Mem.list' (L1 := [readerR b ⟨l, z⟩, truX kr ki b (c.toNat == 1)]) (L := []) (Mem.sub (Mem.shutUX (kr := kr) (ki := ki) (b := b) (x := (c.toNat == 1)) (L := [readerR b ⟨l, z⟩]) (Mem.sub HM.out (by repeat first | exact Sub.nil | refine Sub.cons (by with_reducible repeat first | exact ph | apply pt) ?_))) (by repeat first | exact Sub.nil | refine Sub.cons (by with_reducible repeat first | exact ph | apply pt) ?_))).upd
theorem truth1_bad {B : Nat → Prop} (w : World) (kr ki b : Nat) (c : UInt8) (l : List UInt8) (z : Int) (hl : (c :: l).length ≤ 70368744177664) (hc : ¬ c.toNat ≤ 1) (h : SepL [readerR b ⟨c :: l, z⟩, truX kr ki b false] B w) :
 Calls Tryz.prog 285 #[.pointer (some ⟨kr, 0, none⟩), .pointer (some ⟨ki, 0, none⟩)] w fun e w' => e = (if false = true then .returned (.tuple #[]) else brokenE) ∧ Upd B w w' (listR [readerR b ⟨l, z⟩, truX kr ki b false]) := by
 obtain ⟨r, hr⟩ : ∃ r : Rdr, ⟨c :: l, z⟩ = r := ⟨_, rfl⟩; have HR := Hd hr; rw [show (c :: l).length = r.b.length by rw [← hr]] at hl; rw [hr] at h; clear hr; have hc1 : ¬ ((c.toNat : Int) ≤ 1) := by omega
 have HLL := Hd hl; have HM := Hd (Mem.start (F := B) (r := listR [readerR b r, truX kr ki b false]) h).unlist; simp only [List.cons_append, List.nil_append] at HM; replace HM := Hd (HM.out.pick (r := truX kr ki b false) pk).openUX; clear h hl; go_enter Tryz.func285, Tryz.ntmps285
 have fM := HM.out.fa; go_wp2_with fail; all_goals clear fM
 obtain ⟨C, hC, hS⟩ := (HM.out.pick (r := readerR b r) pk).step; refine (ltake_ok w b 1 r HLL.out (by rw [← HR.out]; simp) hC).mono ?_; rintro e w2 ⟨⟨a1, c1, B1, rfl, hb1⟩, hU⟩; rw [← HR.out] at hb1 hU; replace HM := Hd (hS (readerR b ⟨l, z⟩) _ hU); obtain ⟨g, o, rfl, -, hg, hcl⟩ := Bytes.at (l := [c]) hb1 0 (by simp); have hcl' : w2.cell? ⟨g, o, none⟩ = some (.int .u8 (c.toNat : Int)) := hcl; clear hU hS hC hb1 hcl; have fM := HM.out.fa; go_wp2_with fail; all_goals clear fM
 refine (wmust_any _ _).mono ?_; rintro e w' ⟨rfl, hwq⟩; rw [hwq]; clear hwq w'; try rw [decide_eq_false (show ¬ ((c.toNat : Int) ≤ 1) by omega)]
 simp only [Bool.false_eq_true, if_false, brokenE]; go_wp2_with fail; refine ⟨rfl, rfl, ?_⟩; exact (Mem.list' (L1 := [readerR b ⟨l, z⟩, truX kr ki b false]) (L := []) (Mem.sub (Mem.shutUX (kr := kr) (ki := ki) (b := b) (x := false) (L := [readerR b ⟨l, z⟩]) (Mem.sub HM.out (by repeat first | exact Sub.nil | refine Sub.cons (by with_reducible repeat first | exact ph | apply pt) ?_))) (by repeat first | exact Sub.nil | refine Sub.cons (by with_reducible repeat first | exact ph | apply pt) ?_))).upd
theorem rtruth_any {A : Nat → Prop} (w : World) (b : Nat) (r : Rdr) (hl : r.b.length ≤ 70368744177664) (h : (readerR b r).p A w) :
 Calls Tryz.prog 266 #[.pointer (some ⟨b, 0, none⟩)] w fun e w' => e = .returned (.tuple #[.bool r.tru.2.1, .int .i64 r.tru.2.2]) ∧ Upd A w w' (readerR b r.tru.1) := by
 have hmf : ∀ (fn : Fn) (first cap : Array Value) (w : World), (Instr.makeFunc fn first cap).run Tryz.prog w = .ok (.func fn first cap) w := fun _ _ _ _ => rfl
 have HM := Hd (Mem.start (r := readerR b r) h); have HLL := Hd hl; clear h hl; go_enter Tryz.func266, Tryz.ntmps266
 have fM := HM.out.fa; go_wp2_with fail; all_goals clear fM
 refine nxt HM fun w1 M => ?_
 replace HM := M; clear M; obtain ⟨kr, hkr⟩ : ∃ k, w.heap.size = k := ⟨_, rfl⟩; obtain ⟨ki, hki⟩ : ∃ k, kr + 1 = k := ⟨_, rfl⟩; rw [hkr, hki] at HM ⊢; clear hkr hki; have hen := enters_of (P := Tryz.prog) Tryz.func285 (by kernel_rfl) rfl; replace HM := Hd (Mem.list' (L1 := [readerR b r, truX kr ki b false]) (L := []) (Mem.sub (Mem.shutUX (kr := kr) (ki := ki) (b := b) (x := false) (L := [readerR b r]) (Mem.sub HM.out (by repeat first | exact Sub.nil | refine Sub.cons (by with_reducible repeat first | exact ph | apply pt) ?_))) (by repeat first | exact Sub.nil | refine Sub.cons (by with_reducible repeat first | exact ph | apply pt) ?_))); obtain ⟨C, hC, hS⟩ := HM.out.step; by_cases hr : r.e = 0
 case neg =>
  have hq : r.tru = (r, false, r.e) := by unfold Rdr.tru; exact if_pos hr
  have HQ := Hd hq; clear hq; refine (try_err w1 b r _ _ hr hC).mono ?_; rintro e w2 ⟨rfl, hU⟩; replace HM := Hd (hS _ _ hU).unlist; simp only [List.cons_append, List.nil_append] at HM; replace HM := Hd (HM.out.pick (r := truX kr ki b false) pk).openUX; clear hU hS hC C hen hmf; have fM := HM.out.fa; go_wp2_with fail; all_goals clear fM
  refine nxt HM fun w3 M => ?_
  replace HM := M; clear M; obtain ⟨Ahb, hb⟩ := HM.out.get (r := cellsR ki 4 [.bool false]) pk; have hcc := hb.2.reads.1; rw [HQ.out]; refine bodyPost_ret (v := .tuple #[.bool false, .int .i64 _]) (by simp [results, Tryz.results266, go_sem, hcc]; try rfl) rfl ⟨rfl, ?_⟩; exact (HM.out.pick (r := readerR b r) pk).upd
 have hne : ¬ r.e ≠ 0 := by simpa using hr
 obtain ⟨l, z⟩ := r; have hz : z = 0 := hr; subst hz; cases l with
 | nil =>
   have hq : Rdr.tru ⟨[], 0⟩ = (Rdr.bad, false, 120) := rfl; have HQ := Hd hq; clear hq; refine (try_any w1 b _ _ ⟨[], 0⟩ ⟨[], 0⟩ _ _ false rfl hen hC fun B w2 h2 => truth1_nil w2 kr ki b ⟨[], 0⟩ HLL.out rfl h2).mono ?_; rintro e w2 ⟨rfl, hU⟩; simp only [Bool.false_eq_true, if_false] at hU ⊢; replace HM := Hd (hS _ _ hU).unlist; simp only [List.cons_append, List.nil_append] at HM; replace HM := Hd (HM.out.pick (r := truX kr ki b false) pk).openUX; clear hU hS hC C hen hmf; have fM := HM.out.fa; go_wp2_with fail; all_goals clear fM
   refine nxt HM fun w3 M => ?_
   replace HM := M; clear M; obtain ⟨Ahb, hb⟩ := HM.out.get (r := cellsR ki 4 [.bool false]) pk; have hcc := hb.2.reads.1; rw [HQ.out]; refine bodyPost_ret (v := .tuple #[.bool false, .int .i64 _]) (by simp [results, Tryz.results266, go_sem, hcc]; try rfl) rfl ⟨rfl, ?_⟩; exact (HM.out.pick (r := readerR b Rdr.bad) pk).upd
 | cons c l =>
   by_cases hc : c.toNat ≤ 1
   · have hq : Rdr.tru ⟨c :: l, 0⟩ = (⟨l, 0⟩, c.toNat == 1, 0) := by
      unfold Rdr.tru; exact (if_neg (by simp)).trans (if_pos hc)
     have HQ := Hd hq; clear hq; refine (try_any w1 b _ _ ⟨c :: l, 0⟩ ⟨l, 0⟩ _ _ true rfl hen hC fun B w2 h2 => truth1_ok w2 kr ki b c l 0 HLL.out hc h2).mono ?_; rintro e w2 ⟨rfl, hU⟩; simp only [if_true] at hU ⊢; replace HM := Hd (hS _ _ hU).unlist; simp only [List.cons_append, List.nil_append] at HM; replace HM := Hd (HM.out.pick (r := truX kr ki b (c.toNat == 1)) pk).openUX; clear hU hS hC C hen hmf; have fM := HM.out.fa; go_wp2_with fail; all_goals clear fM
     refine nxt HM fun w3 M => ?_
     replace HM := M; clear M; obtain ⟨Ahb, hb⟩ := HM.out.get (r := cellsR ki 4 [.bool (c.toNat == 1)]) pk; have hcc := hb.2.reads.1; rw [HQ.out]; refine bodyPost_ret (v := .tuple #[.bool (c.toNat == 1), .int .i64 _]) (by simp [results, Tryz.results266, go_sem, hcc]; try rfl) rfl ⟨rfl, ?_⟩; exact (HM.out.pick (r := readerR b ⟨l, 0⟩) pk).upd
   · have hq : Rdr.tru ⟨c :: l, 0⟩ = (Rdr.bad, false, 120) := by
      unfold Rdr.tru; exact (if_neg (by simp)).trans (if_neg hc)
     have HQ := Hd hq; clear hq; refine (try_any w1 b _ _ ⟨c :: l, 0⟩ ⟨l, 0⟩ _ _ false rfl hen hC fun B w2 h2 => truth1_bad w2 kr ki b c l 0 HLL.out hc h2).mono ?_; rintro e w2 ⟨rfl, hU⟩; simp only [Bool.false_eq_true, if_false] at hU ⊢; replace HM := Hd (hS _ _ hU).unlist; simp only [List.cons_append, List.nil_append] at HM; replace HM := Hd (HM.out.pick (r := truX kr ki b false) pk).openUX; clear hU hS hC C hen hmf; have fM := HM.out.fa; go_wp2_with fail; all_goals clear fM
     refine nxt HM fun w3 M => ?_
     replace HM := M; clear M; obtain ⟨Ahb, hb⟩ := HM.out.get (r := cellsR ki 4 [.bool false]) pk; have hcc := hb.2.reads.1; rw [HQ.out]; refine bodyPost_ret (v := .tuple #[.bool false, .int .i64 _]) (by simp [results, Tryz.results266, go_sem, hcc]; try rfl) rfl ⟨rfl, ?_⟩; exact (HM.out.pick (r := readerR b Rdr.bad) pk).upd
theorem end1_any {B : Nat → Prop} (w : World) (kr b : Nat) (l : List UInt8) (z : Int) (hl : l.length ≤ 70368744177664) (h : SepL [readerR b ⟨l, z⟩, cellsR kr 308 [.pointer (some ⟨b, 0, none⟩)]] B w) :
 Calls Tryz.prog 281 #[.pointer (some ⟨kr, 0, none⟩)] w fun e w' => e = (if decide (l = []) then .returned (.tuple #[]) else brokenE) ∧ Upd B w w' (listR [readerR b ⟨l, z⟩, cellsR kr 308 [.pointer (some ⟨b, 0, none⟩)]]) := by
 have hd : ((l.length : Int) == 0) = decide (l = []) := by
  cases l <;> simp
  omega
 by_cases hln : l = []
 · have HD := Hd (show ((l.length : Int) == 0) = true by rw [hd]; exact decide_eq_true hln)
   rw [decide_eq_true hln]; have hl0 : (l.length : Int) = 0 := by rw [hln]; rfl
   clear hd hln; have HLL := Hd hl; have HM := Hd (Mem.start (F := B) (r := listR [readerR b ⟨l, z⟩, cellsR kr 308 [.pointer (some ⟨b, 0, none⟩)]]) h).unlist; simp only [List.cons_append, List.nil_append] at HM; obtain ⟨a, c, hm⟩ := HM.out.openR; replace HM := Hd hm; clear h hl hm; go_enter Tryz.func281, Tryz.ntmps281
   have fM := HM.out.fa; go_wp2_with fail; all_goals clear fM
   refine (wmust_any _ _).mono ?_; rintro e w' ⟨rfl, hwq⟩; rw [hwq]; clear hwq w'; try rw [HD.out]
   simp only [if_true]; go_wp2_with fail; go_end0
   refine ⟨by simp, ?_⟩; exact (Mem.list' (L1 := [readerR b ⟨l, z⟩, cellsR kr 308 [.pointer (some ⟨b, 0, none⟩)]]) (L := []) (Mem.shutR HM.out)).upd
 · have HD := Hd (show ((l.length : Int) == 0) = false by rw [hd]; exact decide_eq_false hln)
   rw [decide_eq_false hln]; have hl0 : ¬ (l.length : Int) = 0 := by have := HD.out; simpa using hln
   clear hd hln; have HLL := Hd hl; have HM := Hd (Mem.start (F := B) (r := listR [readerR b ⟨l, z⟩, cellsR kr 308 [.pointer (some ⟨b, 0, none⟩)]]) h).unlist; simp only [List.cons_append, List.nil_append] at HM; obtain ⟨a, c, hm⟩ := HM.out.openR; replace HM := Hd hm; clear h hl hm; go_enter Tryz.func281, Tryz.ntmps281
   have fM := HM.out.fa; go_wp2_with fail; all_goals clear fM
   refine (wmust_any _ _).mono ?_; rintro e w' ⟨rfl, hwq⟩; rw [hwq]; clear hwq w'; try rw [HD.out]
   simp only [Bool.false_eq_true, if_false, brokenE]; go_wp2_with fail; refine ⟨rfl, rfl, ?_⟩; exact (Mem.list' (L1 := [readerR b ⟨l, z⟩, cellsR kr 308 [.pointer (some ⟨b, 0, none⟩)]]) (L := []) (Mem.shutR HM.out)).upd
theorem rend_any {A : Nat → Prop} (w : World) (b : Nat) (r : Rdr) (hl : r.b.length ≤ 70368744177664) (h : (readerR b r).p A w) :
 Calls Tryz.prog 235 #[.pointer (some ⟨b, 0, none⟩)] w fun e w' => e = .returned (.int .i64 r.fin.2) ∧ Upd A w w' (readerR b r.fin.1) := by
 have hmf : ∀ (fn : Fn) (first cap : Array Value) (w : World), (Instr.makeFunc fn first cap).run Tryz.prog w = .ok (.func fn first cap) w := fun _ _ _ _ => rfl
 have HM := Hd (Mem.start (r := readerR b r) h); have HLL := Hd hl; clear h hl; go_enter Tryz.func235, Tryz.ntmps235
 have fM := HM.out.fa; go_wp2_with fail; all_goals clear fM
 refine nxt HM fun w1 M => ?_
 replace HM := M; clear M; obtain ⟨kr, hkr⟩ : ∃ k, w.heap.size = k := ⟨_, rfl⟩; rw [hkr] at HM ⊢; clear hkr; have hen := enters_of (P := Tryz.prog) Tryz.func281 (by kernel_rfl) rfl; replace HM := Hd (Mem.list' (L1 := [readerR b r, cellsR kr 308 [.pointer (some ⟨b, 0, none⟩)]]) (L := []) (Mem.sub HM.out (by repeat first | exact Sub.nil | refine Sub.cons (by with_reducible repeat first | exact ph | apply pt) ?_))); obtain ⟨C, hC, hS⟩ := HM.out.step; by_cases hr : r.e = 0
 case neg =>
  have hq : r.fin = (r, r.e) := by unfold Rdr.fin; exact if_pos hr
  have HQ := Hd hq; clear hq; refine (try_err w1 b r _ _ hr hC).mono ?_; rintro e w2 ⟨rfl, hU⟩; replace HM := Hd (hS _ _ hU).unlist; simp only [List.cons_append, List.nil_append] at HM; clear hU hS hC C hen hmf; go_wp2_with fail; go_ret; rw [HQ.out]; exact ⟨rfl, (Mem.pick HM.out (r := readerR b r) (by with_reducible exact ph)).upd⟩
 obtain ⟨l, z⟩ := r; have hz : z = 0 := hr; subst hz; refine (try_any w1 b _ _ ⟨l, 0⟩ ⟨l, 0⟩ _ _ (decide (l = [])) rfl hen hC fun B w2 h2 => end1_any w2 kr b l 0 HLL.out h2).mono ?_; rintro e w2 ⟨rfl, hU⟩; replace HM := Hd (hS _ _ hU).unlist; clear hU hS hC C hen hmf; by_cases hln : l = []
 · have hq : Rdr.fin ⟨l, 0⟩ = (⟨l, 0⟩, 0) := by unfold Rdr.fin; exact (if_neg (by simp)).trans (if_pos hln)
   have HQ := Hd hq; rw [decide_eq_true hln] at HM ⊢; simp only [if_true, List.cons_append, List.nil_append] at HM ⊢; clear hq hr hln; go_wp2_with fail; go_ret; rw [HQ.out]; exact ⟨rfl, (Mem.pick HM.out (r := readerR b ⟨l, 0⟩) (by with_reducible exact ph)).upd⟩
 · have hq : Rdr.fin ⟨l, 0⟩ = (Rdr.bad, 120) := by unfold Rdr.fin; exact (if_neg (by simp)).trans (if_neg hln)
   have HQ := Hd hq; rw [decide_eq_false hln] at HM ⊢; simp only [Bool.false_eq_true, if_false, List.cons_append, List.nil_append] at HM ⊢; clear hq hr hln; go_wp2_with fail; go_ret; rw [HQ.out]; exact ⟨rfl, (Mem.pick HM.out (r := readerR b Rdr.bad) (by with_reducible exact ph)).upd⟩
theorem read_any {A : Nat → Prop} (w : World) (v : Value) (l : List UInt8) (h : Bytes w A v l) (hl : l.length ≤ 70368744177664) :
 Calls Tryz.prog 232 #[v] w fun e w' => ∃ b, e = .returned (.pointer (some ⟨b, 0, none⟩)) ∧ Upd NoB w w' (readerR b ⟨l, 0⟩) := by
 have HM := Hd (Mem.start0 w); have HB := Hd h; clear h; go_enter Tryz.func232, Tryz.ntmps232
 go_wp2_with fail; refine (clone_bytes w v l HB.out hl).mono ?_; rintro e w2 ⟨v2, rfl, hw, hE⟩; have hm := HM.out.bytNew hE hw; obtain ⟨a, c, rfl⟩ := hm.fact (fun A h => bytR.len h); replace HM := Hd (hm.turn (r' := readR (.slice a l.length c) l) fun A hA => ⟨bytR.bytes hA, bytR.lt hA⟩); clear hm hw hE; have fM := HM.out.fa; go_wp2_with fail; all_goals clear fM
 go_ret; refine ⟨_, rfl, ?_⟩; refine nxt HM fun w3 M => ?_
 replace HM := M; clear M; exact (Mem.shutR (L := []) (Mem.sub HM.out (by repeat first | exact Sub.nil | refine Sub.cons (by with_reducible repeat first | exact ph | apply pt) ?_))).upd

end Go.Proofs.YtoadjbgpfihoiaaGreatDoor
