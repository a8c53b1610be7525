/- Texts RdrE, WR, WRB, WRC, WRD, WRE, Signs, Laid, MapI, one behind the other. Conditions: as each says. -/
import Derived.Test.YtoadjbgpfihoiaaGreatDoorRaF
import Derived.Lib.TrimUEq
import Derived.Lib.ValidLaws
import Derived.Test.YtoadjbgpfihoiaaGreatDoorCards
import Derived.Test.YtoadjbgpfihoiaaGreatDoorTie
import Derived.SevenTiedAt
import Derived.LaidLaws
import Derived.LaidHandle
import Derived.Lib.LaidIn
import Derived.Lib.LaidU8T
import Derived.PinnedBridge
import Derived.Deep.DeepHandedRow
import Derived.Deep.DeepWitnessRowRef
import Derived.JoinedOf
import Derived.DeepKeys5
import Derived.Maps.Own
set_option linter.unusedVariables false
set_option linter.unusedSimpArgs false
set_option maxHeartbeats 8000000
set_option maxRecDepth 100000
namespace Go.Proofs.YtoadjbgpfihoiaaGreatDoor
open Go.RowKit
section
def truX (kr ki b : Nat) (x : Bool) : Res := listR [cellsR kr 308 [.pointer (some ⟨b, 0, none⟩)], cellsR ki 4 [.bool x]]
theorem Mem.shutUX {F : Nat → Prop} {w0 w : World} {L : List Res} {kr ki b : Nat} {x : Bool} (h : Mem F w0 w (cellsR kr 308 [.pointer (some ⟨b, 0, none⟩)] :: cellsR ki 4 [.bool x] :: L)) : Mem F w0 w (truX kr ki b x :: L) :=
 Mem.list' (L1 := [cellsR kr 308 [.pointer (some ⟨b, 0, none⟩)], cellsR ki 4 [.bool x]]) h
theorem Mem.openUX {F : Nat → Prop} {w0 w : World} {L : List Res} {kr ki b : Nat} {x : Bool} (h : Mem F w0 w (truX kr ki b x :: L)) : Mem F w0 w (cellsR kr 308 [.pointer (some ⟨b, 0, none⟩)] :: cellsR ki 4 [.bool x] :: L) :=
 Mem.unlist (L1 := [cellsR kr 308 [.pointer (some ⟨b, 0, none⟩)], cellsR ki 4 [.bool x]]) h
theorem truth1_nil {B : Nat → Prop} (w : World) (kr ki b : Nat) (r : Rdr) (hl : r.b.length ≤ 70368744177664) (hn : r.b = []) (h : SepL [readerR b r, truX kr ki b false] B w) :
 Calls Tryz.prog 285 #[.pointer (some ⟨kr, 0, none⟩), .pointer (some ⟨ki, 0, none⟩)] w fun e w' => e = (if false = true then .returned (.tuple #[]) else brokenE) ∧ Upd B w w' (listR [readerR b r, truX kr ki b false]) := by
 have HN := Lib.hid hn
 clear hn
 have HLL := Lib.hid hl
 have HM := Lib.hid (Mem.start (F := B) (r := listR [readerR b r, truX kr ki b false]) h).unlist
 simp only [List.cons_append, List.nil_append] at HM
 replace HM := Lib.hid (HM.out.pick (r := truX kr ki b false) pk).openUX
 clear h hl
 go_enter Tryz.func285, Tryz.ntmps285
 have fM := HM.out.fa
 go_wp2_with fail
 all_goals clear fM
 obtain ⟨AhC, hC⟩ := HM.out.get (r := readerR b r) pk
 refine (ltake_bad w b 1 r HLL.out (by rw [HN.out]; decide) hC).mono ?_
 rintro e w' ⟨rfl, hwq⟩
 rw [hwq]
 clear hwq w' hC
 simp only [brokenE]
 go_wp2_with fail
 refine ⟨rfl, rfl, ?_⟩
 exact (Mem.list' (L1 := [readerR b r, truX kr ki b false]) (L := []) (Mem.sub (Mem.shutUX (kr := kr) (ki := ki) (b := b) (x := false) (L := [readerR b r]) (Mem.sub HM.out (by repeat first | exact Sub.nil | refine Sub.cons (by with_reducible repeat first | exact ph | apply pt) ?_))) (by repeat first | exact Sub.nil | refine Sub.cons (by with_reducible repeat first | exact ph | apply pt) ?_))).upd
theorem truth1_ok {B : Nat → Prop} (w : World) (kr ki b : Nat) (c : UInt8) (l : List UInt8) (z : Int) (hl : (c :: l).length ≤ 70368744177664) (hc : c.toNat ≤ 1) (h : SepL [readerR b ⟨c :: l, z⟩, truX kr ki b false] B w) :
 Calls Tryz.prog 285 #[.pointer (some ⟨kr, 0, none⟩), .pointer (some ⟨ki, 0, none⟩)] w fun e w' => e = (if true = true then .returned (.tuple #[]) else brokenE) ∧ Upd B w w' (listR [readerR b ⟨l, z⟩, truX kr ki b (c.toNat == 1)]) := by
 obtain ⟨r, hr⟩ : ∃ r : Rdr, ⟨c :: l, z⟩ = r := ⟨_, rfl⟩
 have HR := Lib.hid hr
 rw [show (c :: l).length = r.b.length by rw [← hr]] at hl
 rw [hr] at h
 clear hr
 have hc1 : ((c.toNat : Int) ≤ 1) := by omega
 have hcc : ((c.toNat : Int) == 1) = (c.toNat == 1) := by rw [Bool.eq_iff_iff]; simp; omega
 have HLL := Lib.hid hl
 have HM := Lib.hid (Mem.start (F := B) (r := listR [readerR b r, truX kr ki b false]) h).unlist
 simp only [List.cons_append, List.nil_append] at HM
 replace HM := Lib.hid (HM.out.pick (r := truX kr ki b false) pk).openUX
 clear h hl
 go_enter Tryz.func285, Tryz.ntmps285
 have fM := HM.out.fa
 go_wp2_with fail
 all_goals clear fM
 obtain ⟨C, hC, hS⟩ := (HM.out.pick (r := readerR b r) pk).step
 refine (ltake_ok w b 1 r HLL.out (by rw [← HR.out]; simp) hC).mono ?_
 rintro e w2 ⟨⟨a1, c1, B1, rfl, hb1⟩, hU⟩
 rw [← HR.out] at hb1 hU
 replace HM := Lib.hid (hS (readerR b ⟨l, z⟩) _ hU)
 obtain ⟨g, o, rfl, -, hg, hcl⟩ := Bytes.at (l := [c]) hb1 0 (by simp)
 have hcl' : w2.cell? ⟨g, o, none⟩ = some (.int .u8 (c.toNat : Int)) := hcl
 clear hU hS hC hb1 hcl
 have fM := HM.out.fa
 go_wp2_with fail
 all_goals clear fM
 refine (wmust_any _ _).mono ?_
 rintro e w' ⟨rfl, hwq⟩
 rw [hwq]
 clear hwq w'
 try rw [decide_eq_true hc1]
 simp only [if_true]
 have fM := HM.out.fa
 go_wp2_with fail
 all_goals clear fM
 refine nxt HM fun w3 M => ?_
 clear HM; have HM := M; clear M
 go_end0
 refine ⟨by simp, ?_⟩
 exact (Mem.list' (L1 := [readerR b ⟨l, z⟩, truX kr ki b (c.toNat == 1)]) (L := []) (Mem.sub (Mem.shutUX (kr := kr) (ki := ki) (b := b) (x := (c.toNat == 1)) (L := [readerR b ⟨l, z⟩]) (Mem.sub HM.out (by repeat first | exact Sub.nil | refine Sub.cons (by with_reducible repeat first | exact ph | apply pt) ?_))) (by repeat first | exact Sub.nil | refine Sub.cons (by with_reducible repeat first | exact ph | apply pt) ?_))).upd
theorem truth1_bad {B : Nat → Prop} (w : World) (kr ki b : Nat) (c : UInt8) (l : List UInt8) (z : Int) (hl : (c :: l).length ≤ 70368744177664) (hc : ¬ c.toNat ≤ 1) (h : SepL [readerR b ⟨c :: l, z⟩, truX kr ki b false] B w) :
 Calls Tryz.prog 285 #[.pointer (some ⟨kr, 0, none⟩), .pointer (some ⟨ki, 0, none⟩)] w fun e w' => e = (if false = true then .returned (.tuple #[]) else brokenE) ∧ Upd B w w' (listR [readerR b ⟨l, z⟩, truX kr ki b false]) := by
 obtain ⟨r, hr⟩ : ∃ r : Rdr, ⟨c :: l, z⟩ = r := ⟨_, rfl⟩
 have HR := Lib.hid hr
 rw [show (c :: l).length = r.b.length by rw [← hr]] at hl
 rw [hr] at h
 clear hr
 have hc1 : ¬ ((c.toNat : Int) ≤ 1) := by omega
 have HLL := Lib.hid hl
 have HM := Lib.hid (Mem.start (F := B) (r := listR [readerR b r, truX kr ki b false]) h).unlist
 simp only [List.cons_append, List.nil_append] at HM
 replace HM := Lib.hid (HM.out.pick (r := truX kr ki b false) pk).openUX
 clear h hl
 go_enter Tryz.func285, Tryz.ntmps285
 have fM := HM.out.fa
 go_wp2_with fail
 all_goals clear fM
 obtain ⟨C, hC, hS⟩ := (HM.out.pick (r := readerR b r) pk).step
 refine (ltake_ok w b 1 r HLL.out (by rw [← HR.out]; simp) hC).mono ?_
 rintro e w2 ⟨⟨a1, c1, B1, rfl, hb1⟩, hU⟩
 rw [← HR.out] at hb1 hU
 replace HM := Lib.hid (hS (readerR b ⟨l, z⟩) _ hU)
 obtain ⟨g, o, rfl, -, hg, hcl⟩ := Bytes.at (l := [c]) hb1 0 (by simp)
 have hcl' : w2.cell? ⟨g, o, none⟩ = some (.int .u8 (c.toNat : Int)) := hcl
 clear hU hS hC hb1 hcl
 have fM := HM.out.fa
 go_wp2_with fail
 all_goals clear fM
 refine (wmust_any _ _).mono ?_
 rintro e w' ⟨rfl, hwq⟩
 rw [hwq]
 clear hwq w'
 try rw [decide_eq_false (show ¬ ((c.toNat : Int) ≤ 1) by omega)]
 simp only [Bool.false_eq_true, if_false, brokenE]
 go_wp2_with fail
 refine ⟨rfl, rfl, ?_⟩
 exact (Mem.list' (L1 := [readerR b ⟨l, z⟩, truX kr ki b false]) (L := []) (Mem.sub (Mem.shutUX (kr := kr) (ki := ki) (b := b) (x := false) (L := [readerR b ⟨l, z⟩]) (Mem.sub HM.out (by repeat first | exact Sub.nil | refine Sub.cons (by with_reducible repeat first | exact ph | apply pt) ?_))) (by repeat first | exact Sub.nil | refine Sub.cons (by with_reducible repeat first | exact ph | apply pt) ?_))).upd
theorem rtruth_any {A : Nat → Prop} (w : World) (b : Nat) (r : Rdr) (hl : r.b.length ≤ 70368744177664) (h : (readerR b r).p A w) :
 Calls Tryz.prog 266 #[.pointer (some ⟨b, 0, none⟩)] w fun e w' => e = .returned (.tuple #[.bool r.tru.2.1, .int .i64 r.tru.2.2]) ∧ Upd A w w' (readerR b r.tru.1) := by
 have hmf : ∀ (fn : Fn) (first cap : Array Value) (w : World), (Instr.makeFunc fn first cap).run Tryz.prog w = .ok (.func fn first cap) w := fun _ _ _ _ => rfl
 have HM := Lib.hid (Mem.start (r := readerR b r) h)
 have HLL := Lib.hid hl
 clear h hl
 go_enter Tryz.func266, Tryz.ntmps266
 have fM := HM.out.fa
 go_wp2_with fail
 all_goals clear fM
 refine nxt HM fun w1 M => ?_
 clear HM; have HM := M; clear M
 obtain ⟨kr, hkr⟩ : ∃ k, w.heap.size = k := ⟨_, rfl⟩
 obtain ⟨ki, hki⟩ : ∃ k, kr + 1 = k := ⟨_, rfl⟩
 rw [hkr, hki] at HM ⊢
 clear hkr hki
 have hen := enters_of (P := Tryz.prog) Tryz.func285 (by kernel_rfl) rfl
 replace HM := Lib.hid (Mem.list' (L1 := [readerR b r, truX kr ki b false]) (L := []) (Mem.sub (Mem.shutUX (kr := kr) (ki := ki) (b := b) (x := false) (L := [readerR b r]) (Mem.sub HM.out (by repeat first | exact Sub.nil | refine Sub.cons (by with_reducible repeat first | exact ph | apply pt) ?_))) (by repeat first | exact Sub.nil | refine Sub.cons (by with_reducible repeat first | exact ph | apply pt) ?_)))
 obtain ⟨C, hC, hS⟩ := HM.out.step
 by_cases hr : r.e = 0
 case neg =>
  have hq : r.tru = (r, false, r.e) := by unfold Rdr.tru; exact if_pos hr
  have HQ := Lib.hid hq
  clear hq
  refine (try_err w1 b r _ _ hr hC).mono ?_
  rintro e w2 ⟨rfl, hU⟩
  replace HM := Lib.hid (hS _ _ hU).unlist
  simp only [List.cons_append, List.nil_append] at HM
  replace HM := Lib.hid (HM.out.pick (r := truX kr ki b false) pk).openUX
  clear hU hS hC C hen hmf
  have fM := HM.out.fa
  go_wp2_with fail
  all_goals clear fM
  refine nxt HM fun w3 M => ?_
  clear HM; have HM := M; clear M
  obtain ⟨Ahb, hb⟩ := HM.out.get (r := cellsR ki 4 [.bool false]) pk
  have hcc := hb.2.reads.1
  rw [HQ.out]
  refine bodyPost_ret (v := .tuple #[.bool false, .int .i64 _]) (by simp [results, Tryz.results266, go_sem, hcc]; try rfl) rfl ⟨rfl, ?_⟩
  exact (HM.out.pick (r := readerR b r) pk).upd
 have hne : ¬ r.e ≠ 0 := by simpa using hr
 obtain ⟨l, z⟩ := r
 have hz : z = 0 := hr
 subst hz
 cases l with
 | nil =>
   have hq : Rdr.tru ⟨[], 0⟩ = (Rdr.bad, false, 120) := rfl
   have HQ := Lib.hid hq
   clear hq
   refine (try_any w1 b _ _ ⟨[], 0⟩ ⟨[], 0⟩ _ _ false rfl hen hC fun B w2 h2 => truth1_nil w2 kr ki b ⟨[], 0⟩ HLL.out rfl h2).mono ?_
   rintro e w2 ⟨rfl, hU⟩
   simp only [Bool.false_eq_true, if_false] at hU ⊢
   replace HM := Lib.hid (hS _ _ hU).unlist
   simp only [List.cons_append, List.nil_append] at HM
   replace HM := Lib.hid (HM.out.pick (r := truX kr ki b false) pk).openUX
   clear hU hS hC C hen hmf
   have fM := HM.out.fa
   go_wp2_with fail
   all_goals clear fM
   refine nxt HM fun w3 M => ?_
   clear HM; have HM := M; clear M
   obtain ⟨Ahb, hb⟩ := HM.out.get (r := cellsR ki 4 [.bool false]) pk
   have hcc := hb.2.reads.1
   rw [HQ.out]
   refine bodyPost_ret (v := .tuple #[.bool false, .int .i64 _]) (by simp [results, Tryz.results266, go_sem, hcc]; try rfl) rfl ⟨rfl, ?_⟩
   exact (HM.out.pick (r := readerR b Rdr.bad) pk).upd
 | cons c l =>
   by_cases hc : c.toNat ≤ 1
   · have hq : Rdr.tru ⟨c :: l, 0⟩ = (⟨l, 0⟩, c.toNat == 1, 0) := by
      unfold Rdr.tru
      exact (if_neg (by simp)).trans (if_pos hc)
     have HQ := Lib.hid hq
     clear hq
     refine (try_any w1 b _ _ ⟨c :: l, 0⟩ ⟨l, 0⟩ _ _ true rfl hen hC fun B w2 h2 => truth1_ok w2 kr ki b c l 0 HLL.out hc h2).mono ?_
     rintro e w2 ⟨rfl, hU⟩
     simp only [if_true] at hU ⊢
     replace HM := Lib.hid (hS _ _ hU).unlist
     simp only [List.cons_append, List.nil_append] at HM
     replace HM := Lib.hid (HM.out.pick (r := truX kr ki b (c.toNat == 1)) pk).openUX
     clear hU hS hC C hen hmf
     have fM := HM.out.fa
     go_wp2_with fail
     all_goals clear fM
     refine nxt HM fun w3 M => ?_
     clear HM; have HM := M; clear M
     obtain ⟨Ahb, hb⟩ := HM.out.get (r := cellsR ki 4 [.bool (c.toNat == 1)]) pk
     have hcc := hb.2.reads.1
     rw [HQ.out]
     refine bodyPost_ret (v := .tuple #[.bool (c.toNat == 1), .int .i64 _]) (by simp [results, Tryz.results266, go_sem, hcc]; try rfl) rfl ⟨rfl, ?_⟩
     exact (HM.out.pick (r := readerR b ⟨l, 0⟩) pk).upd
   · have hq : Rdr.tru ⟨c :: l, 0⟩ = (Rdr.bad, false, 120) := by
      unfold Rdr.tru
      exact (if_neg (by simp)).trans (if_neg hc)
     have HQ := Lib.hid hq
     clear hq
     refine (try_any w1 b _ _ ⟨c :: l, 0⟩ ⟨l, 0⟩ _ _ false rfl hen hC fun B w2 h2 => truth1_bad w2 kr ki b c l 0 HLL.out hc h2).mono ?_
     rintro e w2 ⟨rfl, hU⟩
     simp only [Bool.false_eq_true, if_false] at hU ⊢
     replace HM := Lib.hid (hS _ _ hU).unlist
     simp only [List.cons_append, List.nil_append] at HM
     replace HM := Lib.hid (HM.out.pick (r := truX kr ki b false) pk).openUX
     clear hU hS hC C hen hmf
     have fM := HM.out.fa
     go_wp2_with fail
     all_goals clear fM
     refine nxt HM fun w3 M => ?_
     clear HM; have HM := M; clear M
     obtain ⟨Ahb, hb⟩ := HM.out.get (r := cellsR ki 4 [.bool false]) pk
     have hcc := hb.2.reads.1
     rw [HQ.out]
     refine bodyPost_ret (v := .tuple #[.bool false, .int .i64 _]) (by simp [results, Tryz.results266, go_sem, hcc]; try rfl) rfl ⟨rfl, ?_⟩
     exact (HM.out.pick (r := readerR b Rdr.bad) pk).upd
theorem end1_any {B : Nat → Prop} (w : World) (kr b : Nat) (l : List UInt8) (z : Int) (hl : l.length ≤ 70368744177664) (h : SepL [readerR b ⟨l, z⟩, cellsR kr 308 [.pointer (some ⟨b, 0, none⟩)]] B w) :
 Calls Tryz.prog 281 #[.pointer (some ⟨kr, 0, none⟩)] w fun e w' => e = (if decide (l = []) then .returned (.tuple #[]) else brokenE) ∧ Upd B w w' (listR [readerR b ⟨l, z⟩, cellsR kr 308 [.pointer (some ⟨b, 0, none⟩)]]) := by
 have hd : ((l.length : Int) == 0) = decide (l = []) := by
  cases l <;> simp
  omega
 by_cases hln : l = []
 · have HD := Lib.hid (show ((l.length : Int) == 0) = true by rw [hd]; exact decide_eq_true hln)
   rw [decide_eq_true hln]
   have hl0 : (l.length : Int) = 0 := by rw [hln]; rfl
   clear hd hln
   have HLL := Lib.hid hl
   have HM := Lib.hid (Mem.start (F := B) (r := listR [readerR b ⟨l, z⟩, cellsR kr 308 [.pointer (some ⟨b, 0, none⟩)]]) h).unlist
   simp only [List.cons_append, List.nil_append] at HM
   obtain ⟨a, c, hm⟩ := HM.out.openR
   replace HM := Lib.hid hm
   clear h hl hm
   go_enter Tryz.func281, Tryz.ntmps281
   have fM := HM.out.fa
   go_wp2_with fail
   all_goals clear fM
   refine (wmust_any _ _).mono ?_
   rintro e w' ⟨rfl, hwq⟩
   rw [hwq]
   clear hwq w'
   try rw [HD.out]
   simp only [if_true]
   go_wp2_with fail
   go_end0
   refine ⟨by simp, ?_⟩
   exact (Mem.list' (L1 := [readerR b ⟨l, z⟩, cellsR kr 308 [.pointer (some ⟨b, 0, none⟩)]]) (L := []) (Mem.shutR HM.out)).upd
 · have HD := Lib.hid (show ((l.length : Int) == 0) = false by rw [hd]; exact decide_eq_false hln)
   rw [decide_eq_false hln]
   have hl0 : ¬ (l.length : Int) = 0 := by have := HD.out; simpa using hln
   clear hd hln
   have HLL := Lib.hid hl
   have HM := Lib.hid (Mem.start (F := B) (r := listR [readerR b ⟨l, z⟩, cellsR kr 308 [.pointer (some ⟨b, 0, none⟩)]]) h).unlist
   simp only [List.cons_append, List.nil_append] at HM
   obtain ⟨a, c, hm⟩ := HM.out.openR
   replace HM := Lib.hid hm
   clear h hl hm
   go_enter Tryz.func281, Tryz.ntmps281
   have fM := HM.out.fa
   go_wp2_with fail
   all_goals clear fM
   refine (wmust_any _ _).mono ?_
   rintro e w' ⟨rfl, hwq⟩
   rw [hwq]
   clear hwq w'
   try rw [HD.out]
   simp only [Bool.false_eq_true, if_false, brokenE]
   go_wp2_with fail
   refine ⟨rfl, rfl, ?_⟩
   exact (Mem.list' (L1 := [readerR b ⟨l, z⟩, cellsR kr 308 [.pointer (some ⟨b, 0, none⟩)]]) (L := []) (Mem.shutR HM.out)).upd
theorem rend_any {A : Nat → Prop} (w : World) (b : Nat) (r : Rdr) (hl : r.b.length ≤ 70368744177664) (h : (readerR b r).p A w) :
 Calls Tryz.prog 235 #[.pointer (some ⟨b, 0, none⟩)] w fun e w' => e = .returned (.int .i64 r.fin.2) ∧ Upd A w w' (readerR b r.fin.1) := by
 have hmf : ∀ (fn : Fn) (first cap : Array Value) (w : World), (Instr.makeFunc fn first cap).run Tryz.prog w = .ok (.func fn first cap) w := fun _ _ _ _ => rfl
 have HM := Lib.hid (Mem.start (r := readerR b r) h)
 have HLL := Lib.hid hl
 clear h hl
 go_enter Tryz.func235, Tryz.ntmps235
 have fM := HM.out.fa
 go_wp2_with fail
 all_goals clear fM
 refine nxt HM fun w1 M => ?_
 clear HM; have HM := M; clear M
 obtain ⟨kr, hkr⟩ : ∃ k, w.heap.size = k := ⟨_, rfl⟩
 rw [hkr] at HM ⊢
 clear hkr
 have hen := enters_of (P := Tryz.prog) Tryz.func281 (by kernel_rfl) rfl
 replace HM := Lib.hid (Mem.list' (L1 := [readerR b r, cellsR kr 308 [.pointer (some ⟨b, 0, none⟩)]]) (L := []) (Mem.sub HM.out (by repeat first | exact Sub.nil | refine Sub.cons (by with_reducible repeat first | exact ph | apply pt) ?_)))
 obtain ⟨C, hC, hS⟩ := HM.out.step
 by_cases hr : r.e = 0
 case neg =>
  have hq : r.fin = (r, r.e) := by unfold Rdr.fin; exact if_pos hr
  have HQ := Lib.hid hq
  clear hq
  refine (try_err w1 b r _ _ hr hC).mono ?_
  rintro e w2 ⟨rfl, hU⟩
  replace HM := Lib.hid (hS _ _ hU).unlist
  simp only [List.cons_append, List.nil_append] at HM
  clear hU hS hC C hen hmf
  go_wp2_with fail
  go_ret
  rw [HQ.out]
  exact ⟨rfl, (Mem.pick HM.out (r := readerR b r) (by with_reducible exact ph)).upd⟩
 obtain ⟨l, z⟩ := r
 have hz : z = 0 := hr
 subst hz
 refine (try_any w1 b _ _ ⟨l, 0⟩ ⟨l, 0⟩ _ _ (decide (l = [])) rfl hen hC fun B w2 h2 => end1_any w2 kr b l 0 HLL.out h2).mono ?_
 rintro e w2 ⟨rfl, hU⟩
 replace HM := Lib.hid (hS _ _ hU).unlist
 clear hU hS hC C hen hmf
 by_cases hln : l = []
 · have hq : Rdr.fin ⟨l, 0⟩ = (⟨l, 0⟩, 0) := by unfold Rdr.fin; exact (if_neg (by simp)).trans (if_pos hln)
   have HQ := Lib.hid hq
   rw [decide_eq_true hln] at HM ⊢
   simp only [if_true, List.cons_append, List.nil_append] at HM ⊢
   clear hq hr hln
   go_wp2_with fail
   go_ret
   rw [HQ.out]
   exact ⟨rfl, (Mem.pick HM.out (r := readerR b ⟨l, 0⟩) (by with_reducible exact ph)).upd⟩
 · have hq : Rdr.fin ⟨l, 0⟩ = (Rdr.bad, 120) := by unfold Rdr.fin; exact (if_neg (by simp)).trans (if_neg hln)
   have HQ := Lib.hid hq
   rw [decide_eq_false hln] at HM ⊢
   simp only [Bool.false_eq_true, if_false, List.cons_append, List.nil_append] at HM ⊢
   clear hq hr hln
   go_wp2_with fail
   go_ret
   rw [HQ.out]
   exact ⟨rfl, (Mem.pick HM.out (r := readerR b Rdr.bad) (by with_reducible exact ph)).upd⟩
theorem read_any {A : Nat → Prop} (w : World) (v : Value) (l : List UInt8) (h : Bytes w A v l) (hl : l.length ≤ 70368744177664) :
 Calls Tryz.prog 232 #[v] w fun e w' => ∃ b, e = .returned (.pointer (some ⟨b, 0, none⟩)) ∧ Upd NoB w w' (readerR b ⟨l, 0⟩) := by
 have HM := Lib.hid (Mem.start0 w)
 have HB := Lib.hid h
 clear h
 go_enter Tryz.func232, Tryz.ntmps232
 go_wp2_with fail
 refine (clone_bytes w v l HB.out hl).mono ?_
 rintro e w2 ⟨v2, rfl, hw, hE⟩
 have hm := HM.out.bytNew hE hw
 obtain ⟨a, c, rfl⟩ := hm.fact (fun A h => bytR.len h)
 replace HM := Lib.hid (hm.turn (r' := readR (.slice a l.length c) l) fun A hA => ⟨bytR.bytes hA, bytR.lt hA⟩)
 clear hm hw hE
 have fM := HM.out.fa
 go_wp2_with fail
 all_goals clear fM
 go_ret
 refine ⟨_, rfl, ?_⟩
 refine nxt HM fun w3 M => ?_
 clear HM; have HM := M; clear M
 exact (Mem.shutR (L := []) (Mem.sub HM.out (by repeat first | exact Sub.nil | refine Sub.cons (by with_reducible repeat first | exact ph | apply pt) ?_))).upd
end
section

end
section
theorem rnumL_any (w : World) (n : Nat) (hn : n < 9223372036854775808) :
 Calls Tryz.prog 197 #[.int .i64 (n : Int)] w fun e w' => ∃ v', e = .returned v' ∧ Upd NoB w w' (bytR v' (numL n)) := by
 have HM := Lib.hid (Mem.start0 w).bytNil
 have HNL := Lib.hid hn
 clear hn
 go_enter Tryz.func197, Tryz.ntmps197
 go_wp2_with fail
 go_loopw [3, 0] (fun x i wr => ∃ (m : Nat) (l1 : List UInt8) (a1 : Option Addr) (c1 : Nat), i = .int .i64 m ∧ x = .slice a1 l1.length c1 ∧ Hid (m < 9223372036854775808) ∧ Hid (numL n = l1 ++ numL m) ∧ Hid (Mem NoB w wr [bytR (.slice a1 l1.length c1) l1])) (fun _ i _ => (intOf i).toNat)
 case atStart => exact ⟨n, [], none, 0, rfl, rfl, HNL, Lib.hid rfl, HM⟩
 case round =>
  clear HM
  obtain ⟨m, l1, a1, c1, rfl, rfl, HML, HT, HM⟩ := hrel
  have hlen := congrArg List.length HT.out
  rw [List.length_append] at hlen
  have hl2 := numL_len n
  have HL1 := Lib.hid (show l1.length ≤ 10 by omega)
  clear hlen hl2
  by_cases hm : 128 ≤ m
  · have hm' : (128 : Int) ≤ (m : Int) := by omega
    have hst := numL_step HML.out
    rw [if_pos hm] at hst
    have hb : (128 + (m : Int) % 128) % 256 = 128 + (m : Int) % 128 := by omega
    have HWW := Lib.hid (show wrap64 ((m : Int) / 128) = (m : Int) / 128 from IntWalk.wrap64_in _ (by have := HML.out; omega))
    have HT' := Lib.hid (show numL n = (l1 ++ [UInt8.ofNat (m % 128 + 128)]) ++ numL (m / 128) by rw [HT.out, hst, List.append_assoc]; rfl)
    have HMM := Lib.hid hm
    clear hst hm HT
    go_wp2_with (at_builtin; refine standing ?_)
    refine nxt HM fun w1 M => ?_
    clear HM; have HM := M; clear M
    rw [show (128 + (m : Int) % 128) = (((m % 128 + 128) : Nat) : Int) by first | rfl | omega] at HM
    obtain ⟨Ahb, hb⟩ := HM.out.get (r := cellsR wr.heap.size 5 [.int .u8 (((m % 128 + 128) : Nat) : Int)]) pk
    replace HM := Lib.hid (HM.out.pick (r := bytR (.slice a1 l1.length c1) l1) pk)
    obtain ⟨v8, w8, hr, hm9⟩ := Mem.bytAdd 27 HM.out _ _ (one_byte hb.2 (by omega)) (by have := HL1.out; simp; omega)
    obtain ⟨l2, hl2⟩ : ∃ l2, l1 ++ [UInt8.ofNat (m % 128 + 128)] = l2 := ⟨_, rfl⟩
    rw [hl2] at hm9
    have HL2 := Lib.hid hl2
    obtain ⟨a8, c8, rfl⟩ := hm9.fact (fun A h => bytR.len h)
    replace HM := Lib.hid hm9
    refine ⟨?_⟩
    refine wpList_append_ran rfl _ _ hr rfl rfl rfl ?_
    clear hr hm9 hb Ahb hl2
    replace HM := Lib.hid (Mem.sub HM.out (L' := [bytR (.slice a8 l2.length c8) l2]) sb)
    rw [HL2.out] at HT'
    go_wp2_with fail
    rw [HWW.out]
    go_roundw
    case rel => exact ⟨m / 128, l2, a8, c8, by first | go_num | (rw [HWW.out]; go_num), rfl, Lib.hid (by have := HML.out; omega), HT', HM⟩
    case measure =>
     try rw [HWW.out]
     simp [intOf]; omega
  · have hm' : ¬ (128 : Int) ≤ (m : Int) := by omega
    have hst := numL_step HML.out
    rw [if_neg hm] at hst
    have hb : (m : Int) % 256 = m := by omega
    have HMM := Lib.hid (show m < 128 by omega)
    rw [hst] at HT
    clear hst hm
    go_wp2_with (at_builtin; refine standing ?_)
    refine nxt HM fun w1 M => ?_
    clear HM; have HM := M; clear M
    rw [show (m : Int) = ((m : Nat) : Int) by first | rfl | omega] at HM
    obtain ⟨Ahb, hb⟩ := HM.out.get (r := cellsR wr.heap.size 5 [.int .u8 ((m : Nat) : Int)]) pk
    replace HM := Lib.hid (HM.out.pick (r := bytR (.slice a1 l1.length c1) l1) pk)
    obtain ⟨v8, w8, hr, hm9⟩ := Mem.bytAdd 27 HM.out _ _ (one_byte hb.2 (by have := HMM.out; omega)) (by have := HL1.out; simp; omega)
    obtain ⟨l2, hl2⟩ : ∃ l2, l1 ++ [UInt8.ofNat m] = l2 := ⟨_, rfl⟩
    rw [hl2] at hm9
    have HL2 := Lib.hid hl2
    obtain ⟨a8, c8, rfl⟩ := hm9.fact (fun A h => bytR.len h)
    replace HM := Lib.hid hm9
    refine ⟨?_⟩
    refine wpList_append_ran rfl _ _ hr rfl rfl rfl ?_
    clear hr hm9 hb Ahb hl2
    replace HM := Lib.hid (Mem.sub HM.out (L' := [bytR (.slice a8 l2.length c8) l2]) sb)
    go_wp2_with fail
    go_ret
    rw [HT.out]
    have := HL2.out
    exact ⟨_, rfl, by rw [show l1 ++ [UInt8.ofNat m] = l2 from this]; exact HM.out.upd⟩
theorem rtruL_any (w : World) (t : Bool) :
 Calls Tryz.prog 199 #[.bool t] w fun e w' => ∃ v', e = .returned v' ∧ Upd NoB w w' (bytR v' (truL t)) := by
 have HM := Lib.hid (Mem.start0 w)
 cases t
 all_goals
  go_enter Tryz.func199, Tryz.ntmps199
  go_wp2_with fail
  refine nxt HM fun w1 M => ?_
  clear HM; have HM := M; clear M
  go_ret
 · exact ⟨_, rfl, (Mem.bytMade (l := truL false) HM.out (by decide)).upd⟩
 · exact ⟨_, rfl, (Mem.bytMade (l := truL true) HM.out (by decide)).upd⟩
theorem rtxtL_any (w : World) (s : List UInt8) (hs : s.length ≤ 1048576) :
 Calls Tryz.prog 200 #[.string (bs s)] w fun e w' => ∃ v', e = .returned v' ∧ Upd NoB w w' (bytR v' (txtL s)) := by
 have HM := Lib.hid (Mem.start0 w)
 have hsz : (bs s).size = s.length := bs_size s
 have HSL := Lib.hid hs
 go_enter Tryz.func200, Tryz.ntmps200
 go_wp2_with fail
 refine (rnumL_any w s.length (by omega)).mono ?_
 rintro e w2 ⟨v2, rfl, hU⟩
 obtain ⟨l2, hl2⟩ : ∃ l2, numL s.length = l2 := ⟨_, rfl⟩
 have HL2 := Lib.hid (show numL s.length = l2 ∧ l2.length ≤ 10 from ⟨hl2, by rw [← hl2]; exact (numL_len _).2⟩)
 rw [hl2] at hU
 obtain ⟨a2, c2, rfl⟩ : ∃ a2 c2, v2 = .slice a2 l2.length c2 := let ⟨_, h, _⟩ := hU; bytR.len h
 obtain ⟨F2, u1, u2, u3⟩ := hU
 replace HM := Lib.hid ((Mem.start0 w).new (r := bytR (.slice a2 l2.length c2) l2) (G := F2) u2 u1 (fun k hk => (u3 k hk).elim (fun h => (noB _ h).elim) id))
 obtain ⟨v3, w3, hcv, hb3, hE3, hs3⟩ := conv_bytes w2 s
 have HB3 := Lib.hid hb3
 replace HM := Lib.hid (HM.out.ext hE3)
 obtain ⟨a3, c3, rfl⟩ := hb3.len
 clear u1 u2 u3 F2 hl2 hb3 hE3 hs3
 go_wp2_with (at_builtin; refine standing ?_)
 obtain ⟨v8, w8, hr, hm9⟩ := Mem.bytAdd 27 HM.out _ _ HB3.out (by have := HL2.out; have := HSL.out; omega)
 replace HM := Lib.hid hm9
 refine ⟨?_⟩
 refine wpList_append_ran rfl _ _ hr rfl rfl rfl ?_
 clear hr hm9
 go_wp2_with fail
 go_ret
 unfold txtL
 rw [HL2.out.1]
 exact ⟨_, rfl, HM.out.upd⟩
theorem rframe_any {A : Nat → Prop} (w : World) (v : Value) (l : List UInt8) (h : Bytes w A v l) (hl : l.length ≤ 4096) :
 Calls Tryz.prog 145 #[v] w fun e w' => ∃ v', e = .returned v' ∧ Upd NoB w w' (bytR v' (frameL l)) := by
 have HB := Lib.hid h
 obtain ⟨a, c, rfl⟩ := h.len
 have HLL := Lib.hid hl
 clear h
 go_enter Tryz.func145, Tryz.ntmps145
 go_wp2_with fail
 refine (rseal_any w _ l (by omega) HB.out).mono ?_
 rintro e w2 ⟨v2, rfl, hU⟩
 obtain ⟨hb2, hE2⟩ := hU.byt
 have HB2 := Lib.hid hb2
 have HM := Lib.hid ((Mem.start0 w).ext hE2)
 obtain ⟨a2, c2, rfl⟩ := hb2.len
 rw [sealL_len]
 rw [sealL_len] at HB2
 clear hU hb2 hE2
 go_wp2_with fail
 rw [show ((l.length : Int) + 4) = ((l.length + 4 : Nat) : Int) from rfl]
 refine (rnumL_any w2 (l.length + 4) (by omega)).mono ?_
 rintro e w3 ⟨v3, rfl, hU⟩
 obtain ⟨l2, hl2⟩ : ∃ l2, numL (l.length + 4) = l2 := ⟨_, rfl⟩
 have HL2 := Lib.hid (show numL (l.length + 4) = l2 ∧ l2.length ≤ 10 from ⟨hl2, by rw [← hl2]; exact (numL_len _).2⟩)
 rw [hl2] at hU
 obtain ⟨a3, c3, rfl⟩ : ∃ a2 c2, v3 = .slice a2 l2.length c2 := let ⟨_, h, _⟩ := hU; bytR.len h
 obtain ⟨F2, u1, u2, u3⟩ := hU
 replace HM := Lib.hid (HM.out.new (r := bytR (.slice a3 l2.length c3) l2) (G := F2) u2 u1 (fun k hk => (u3 k hk).elim (fun h => (noB _ h).elim) id))
 replace HB2 := Lib.hid (HB2.out.ext u2)
 clear u1 u2 u3 F2 hl2
 go_wp2_with (at_builtin; refine standing ?_)
 obtain ⟨v8, w8, hr, hm9⟩ := Mem.bytAdd 27 HM.out _ _ HB2.out (by rw [sealL_len]; have := HL2.out; omega)
 replace HM := Lib.hid hm9
 refine ⟨?_⟩
 refine wpList_append_ran rfl _ _ hr rfl rfl rfl ?_
 clear hr hm9
 go_wp2_with fail
 go_ret
 unfold frameL
 rw [HL2.out.1]
 exact ⟨_, rfl, HM.out.upd⟩
end
section
def RdV (A : Nat → Prop) (w : World) (r : Rdr) (x : Value) : Prop := ∃ a c, x = .agg #[.slice a r.b.length c, .int .i64 r.e] ∧ Bytes w A (.slice a r.b.length c) r.b
theorem RdV.ext {A : Nat → Prop} {w w' : World} {r : Rdr} {x : Value} (h : RdV A w r x) (e : Ext w w') : RdV A w' r x := let ⟨a, c, h1, h2⟩ := h; ⟨a, c, h1, h2.ext e⟩
theorem Bytes.swap {A : Nat → Prop} {w0 w w' : World} {v : Value} {l : List UInt8} (h : Bytes w A v l) (hA : ∀ k, A k → k < w0.heap.size) (e : Ext w0 w) (e' : Ext w0 w') : Bytes w' A v l :=
 SlV.mono h (fun _ h => h) fun b o c hb hc => by
  unfold ByteAt at hc ⊢
  rw [e.reads.1 b o (hA b hb)] at hc
  rw [e'.reads.1 b o (hA b hb)]; exact hc
theorem RdV.swap {A : Nat → Prop} {w0 w w' : World} {r : Rdr} {x : Value} (h : RdV A w r x) (hA : ∀ k, A k → k < w0.heap.size) (e : Ext w0 w) (e' : Ext w0 w') : RdV A w' r x := let ⟨a, c, h1, h2⟩ := h; ⟨a, c, h1, h2.swap hA e e'⟩
theorem RdV.bad (A : Nat → Prop) (w : World) : RdV A w Rdr.bad (.agg #[.slice none 0 0, .int .i64 120]) := ⟨none, 0, rfl, SlV.nil⟩
end
section

end
section

end
section
open Go.Lib
def sgn (l : List UInt8) : Nat × Nat := if decodeL l = (65533, 1) then (0, 0) else decodeL l
structure Sg where
 at' : Nat
 size : Nat
 n : Nat
 broken : Bool
def Sg.bad (x : Sg) : Bool := decide (x.n < 32) || (decide (127 ≤ x.n) && decide (x.n ≤ 159))
def signsF (l : List UInt8) : Nat → Nat → List Sg
 | 0, _ => []
 | f + 1, p => if p < l.length then (if (sgn (l.drop p)).2 = 0 then ⟨p, 1, 65533, true⟩ :: signsF l f (p + 1) else ⟨p, (sgn (l.drop p)).2, (sgn (l.drop p)).1, false⟩ :: signsF l f (p + (sgn (l.drop p)).2)) else []
def signsL (l : List UInt8) : List Sg := signsF l l.length 0
def blankB (l : List UInt8) : Bool := l.isEmpty || l.head? == some 32 || l.getLast? == some 32
def chk (l : List UInt8) : Nat := if 200 < l.length then 3 else if (signsL l).any (·.broken) then 130 else if (signsL l).any (·.bad) then 131 else if blankB l then 132 else 0
theorem decodeL_pos (l : List UInt8) : 1 ≤ (decodeL l).2 := by rw [decodeL_N]; exact decodeN_ge1 _ _ _ _ _
theorem sgn_zero (l : List UInt8) : (sgn l).2 = 0 ↔ decodeL l = (65533, 1) := by
 unfold sgn
 constructor
 · intro h
   by_cases h1 : decodeL l = (65533, 1)
   · exact h1
   · rw [if_neg h1] at h
     have := decodeL_pos l
     omega
 · intro h
   rw [if_pos h]
theorem sgn_some {l : List UInt8} (h : (sgn l).2 ≠ 0) : sgn l = decodeL l := by
 unfold sgn at h ⊢
 by_cases h1 : decodeL l = (65533, 1)
 · rw [if_pos h1] at h; exact absurd rfl h
 · rw [if_neg h1]
theorem signsF_step (l : List UInt8) (f p : Nat) (h : p < l.length) : signsF l (f + 1) p = ⟨p, (decodeL (l.drop p)).2, (decodeL (l.drop p)).1, decide (decodeL (l.drop p) = (65533, 1))⟩ :: signsF l f (p + (decodeL (l.drop p)).2) := by
 rw [signsF, if_pos h]
 by_cases h1 : decodeL (l.drop p) = (65533, 1)
 · rw [if_pos ((sgn_zero _).2 h1), h1]; rfl
 · have h2 : (sgn (l.drop p)).2 ≠ 0 := fun h => h1 ((sgn_zero _).1 h)
   rw [if_neg h2, sgn_some h2, decide_eq_false h1]
theorem signsF_end (l : List UInt8) (f p : Nat) (h : ¬ p < l.length) : signsF l f p = [] := by
 cases f with
 | zero => rfl
 | succ f => rw [signsF, if_neg h]
theorem valid_signs (l : List UInt8) : ∀ (f p : Nat), l.length ≤ p + f → validD (l.drop p) = !(signsF l f p).any (·.broken)
 | 0, p, h => by
   rw [signsF_end l 0 p (by omega), List.drop_of_length_le (by omega)]; rfl
 | f + 1, p, h => by
   by_cases hp : p < l.length
   · have hne : l.drop p ≠ [] := by
      intro h0
      have := congrArg List.length h0
      rw [List.length_drop] at this
      simp at this; omega
     have hw := decodeL_pos (l.drop p)
     rw [signsF_step l f p hp, validD_step _ hne, List.any_cons, List.drop_drop, Bool.not_or]
     by_cases h1 : decodeL (l.drop p) = (65533, 1)
     · rw [if_pos (by rw [h1]; exact ⟨rfl, rfl⟩), decide_eq_true h1]; rfl
     · rw [if_neg (fun h2 => h1 (Prod.ext h2.1 h2.2)), decide_eq_false h1, valid_signs l f _ (by omega)]; rfl
   · rw [signsF_end l _ p hp, List.drop_of_length_le (by omega)]; rfl
theorem sgn_N (l : List UInt8) : sgn l = if decodeN l.length (l.getD 0 0).toNat (l.getD 1 0).toNat (l.getD 2 0).toNat (l.getD 3 0).toNat = (65533, 1) then (0, 0) else decodeN l.length (l.getD 0 0).toNat (l.getD 1 0).toNat (l.getD 2 0).toNat (l.getD 3 0).toNat := by
 unfold sgn
 rw [decodeL_N]
end
section
theorem own : ownKnob Tryz.prog.godebug = none := by kernel_rfl
noncomputable def laidWorld (os : Os) : World :=
 let w0 := World.holding Tryz.prog os ⟨#[], #[], []⟩
 let put (h : Array Obj) (g : Nat) (cs : Array Value) : Array Obj := h.modify g fun
  | .cells _ t frozen => .cells cs t frozen
  | o => o
 let h1 := put w0.heap 0 (Lib.firstTab.map fun z => Value.int .u8 z).toArray
 let h2 := put h1 1 ((List.range 16).flatMap fun i => [Value.int .u8 (Lib.accLo i), Value.int .u8 (Lib.accHi i)]).toArray
 { w0 with heap := h2 }
def tables : List (String × DataW Unit) := [("unicode/utf8.acceptRanges", Rows.laid_unicode_utf8_acceptRanges), ("unicode/utf8.first", Rows.laid_unicode_utf8_first)]
theorem laid_met (os : Os) (args : Array Value) : laidMet Tryz.prog tables ((laidWorld os).forCall (fun _ _ => 0) ⟨#[], args, []⟩).memory :=
 (LaidIn.of_run (l := tables) [0, 1] 8 (by kernel_rfl) (by kernel_rfl) (by kernel_rfl) (by kernel_rfl)).met
def Tab (W : World) : Prop := laidMetH Tryz.prog tables W
end
section
open Go.RowKit Go.WideMaps Go.ChangeMaps
def I64 (n : Int) : Prop := -9223372036854775808 ≤ n ∧ n ≤ 9223372036854775807
theorem wf_i64 {a : Int} (h : I64 a) : (Lit.int .i64 a).wf = true := by
 unfold I64 at h
 simp [Lit.wf, IntKind.min, IntKind.max, IntKind.signed, IntKind.bits]; omega
theorem i64_lit (n : Int) (h : (decide (-9223372036854775808 ≤ n) && decide (n ≤ 9223372036854775807)) = true) : I64 n := by
 rw [Bool.and_eq_true] at h
 exact ⟨of_decide_eq_true h.1, of_decide_eq_true h.2⟩
def MapI (w : World) (m : Nat) (D : List (Int × Value)) : Prop :=
 ∃ es clock, w.heap[m]? = some (.map es clock) ∧ Go.MapKept.Stamped es clock ∧ es.toList.map (fun e => (e.key, e.val)) = D.map (fun p => (Value.int .i64 p.1, p.2)) ∧ ∀ p ∈ D, I64 p.1
def lookI (D : List (Int × Value)) (n : Int) (z : Value) : Value × Bool := match D.find? (fun p => p.1 == n) with | some p => (p.2, true) | none => (z, false)
section
variable {P : Program} {w w' : World} {m : Nat} {D : List (Int × Value)} {T K E : TypeId} {n : Int} {v z : Value}
theorem MapI.lt (h : MapI w m D) : m < w.heap.size := let ⟨_, _, h1, _⟩ := h; (Array.getElem?_eq_some_iff.1 h1).1
theorem MapI.keeps {S : Nat → Prop} (h : MapI w m D) (hk : Keeps S w w') (hs : ¬ S m) : MapI w' m D := by
 have hl := h.lt
 obtain ⟨es, c, h1, h2⟩ := h
 exact ⟨es, c, (hk.block m hl hs).trans h1, h2⟩
theorem MapI.ext (h : MapI w m D) (hk : Ext w w') : MapI w' m D := h.keeps hk (noB _)
theorem mapi_new (w : World) : MapI (w.alloc (.map #[] 0)) w.heap.size [] :=
 ⟨#[], 0, World.alloc_heap_new w _, by unfold Go.MapKept.Stamped; simp, rfl, by simp⟩
theorem int_key (hK : P.underlying K = some (.int .i64)) (hn : I64 n) : keyOf P K (.int .i64 n) = some (.int .i64 n) := Go.Maps.keyOf_int_mk hK (wf_i64 hn)
theorem mapi_get {es : List MapEntry} {j : Nat} {e : MapEntry} (h : es.map (fun e => (e.key, e.val)) = D.map (fun p => (Value.int .i64 p.1, p.2))) (he : es[j]? = some e) : ∃ p, D[j]? = some p ∧ e.key = .int .i64 p.1 ∧ e.val = p.2 := by
 have h1 := congrArg (·[j]?) h
 simp only [List.getElem?_map, he, Option.map_some] at h1
 cases hd : D[j]? with
 | none => rw [hd] at h1; simp at h1
 | some p =>
   rw [hd] at h1
   simp at h1
   exact ⟨p, rfl, h1.1, h1.2⟩
theorem mapi_mem {es : List MapEntry} (h : es.map (fun e => (e.key, e.val)) = D.map (fun p => (Value.int .i64 p.1, p.2))) {e : MapEntry} (he : e ∈ es) : ∃ p ∈ D, e.key = .int .i64 p.1 ∧ e.val = p.2 := by
 obtain ⟨j, hj, rfl⟩ := List.getElem_of_mem he
 obtain ⟨p, h1, h2⟩ := mapi_get h (List.getElem?_eq_getElem hj)
 exact ⟨p, List.mem_of_getElem? h1, h2⟩
theorem mapi_find (hK : P.underlying K = some (.int .i64)) {es : List MapEntry} (h : es.map (fun e => (e.key, e.val)) = D.map (fun p => (Value.int .i64 p.1, p.2))) (hD : ∀ p ∈ D, I64 p.1) (hn : I64 n) :
 ((Instr.findKey K (.int .i64 n) es).run P w = .ok none w ∧ ∀ p ∈ D, p.1 ≠ n) ∨ ∃ j p, (Instr.findKey K (.int .i64 n) es).run P w = .ok (some (j, p.2)) w ∧ D[j]? = some p ∧ p.1 = n := by
 have hl := int_key hK hn
 have hkeys : ∀ e ∈ es, ∃ l, keyOf P K e.key = some l := fun e he => by
  obtain ⟨p, hp, hk, _⟩ := mapi_mem h he
  rw [hk]
  exact ⟨_, int_key hK (hD p hp)⟩
 rcases (Go.Maps.int_keyed hK).find w hl es hkeys with ⟨h1, h2⟩ | ⟨j, e, h1, h2, h3⟩
 · refine .inl ⟨h1, fun p hm hp => ?_⟩
   obtain ⟨j, hj, hjd⟩ := List.getElem_of_mem hm
   have hlen : es.length = D.length := by simpa using congrArg List.length h
   obtain ⟨q, hq, hk, _⟩ := mapi_get (D := D) h (List.getElem?_eq_getElem (show j < es.length by omega))
   rw [List.getElem?_eq_getElem hj, hjd] at hq
   cases hq
   exact h2 _ (List.getElem_mem _) (by rw [hk, hp])
 · obtain ⟨p, hp, hk, hv⟩ := mapi_get h h2
   rw [hv] at h1
   refine .inr ⟨j, p, h1, hp, ?_⟩
   rw [h3] at hk
   simpa using hk.symm
theorem MapI.put (h : MapI w m D) (hT : P.underlying T = some (.map K E)) (hK : P.underlying K = some (.int .i64)) (hn : I64 n) (hne : ∀ p ∈ D, p.1 ≠ n) (v : Value) :
 ∃ w', (Instr.mapUpdate T (.map (some m)) (.int .i64 n) v).run P w = .ok () w' ∧ MapI w' m (D ++ [(n, v)]) ∧ Keeps (OneB m) w w' := by
 obtain ⟨es, clock, h1, h2, h3, h4⟩ := h
 have hl := int_key hK hn
 rcases mapi_find (w := w) hK h3 h4 hn with ⟨h5, h6⟩ | ⟨j, p, h5, h6, h7⟩
 · refine ⟨setBlock w m (.map (es.push ⟨.int .i64 n, v, clock⟩) (clock + 1)), by simp [Instr.mapUpdate, run_underlying hT, Go.MapKept.run_getObj_map h1, (Go.Maps.int_keyed hK).check w _ hl, h5, Go.MapKept.run_setObj_map _ h1, Result.andThen, setBlock], ?_, ?_⟩
   · refine ⟨_, _, Go.ChangeMaps.heap_setBlock_same h1 _, Go.MapKept.stamped_push h2 (fun x hx he => ?_), ?_, ?_⟩
     · obtain ⟨p, hp, hk, _⟩ := mapi_mem h3 hx
       rw [hk] at he
       exact hne p hp (by simpa using he)
     · rw [Array.toList_push, List.map_append, h3, List.map_append]; rfl
     · intro p hp
       rcases List.mem_append.1 hp with hp | hp
       · exact h4 p hp
       · obtain rfl := List.mem_singleton.1 hp; exact hn
   · exact ⟨rfl, rfl, rfl, by simp [setBlock], fun i _ hi => Go.ChangeMaps.heap_setBlock_other h1 _ hi⟩
 · exact absurd h7 (hne p (List.mem_of_getElem? h6))
theorem MapI.look (h : MapI w m D) (hT : P.underlying T = some (.map K E)) (hK : P.underlying K = some (.int .i64)) (hz : ∀ w, (zeroValue E).run P w = .ok z w) (hn : I64 n) (hD : D.Pairwise (fun p q => p.1 ≠ q.1)) (ok : Bool) :
 (Instr.lookup T (.map (some m)) (.int .i64 n) ok).run P w = .ok (if ok then .tuple #[(lookI D n z).1, .bool (lookI D n z).2] else (lookI D n z).1) w := by
 obtain ⟨es, clock, h1, h2, h3, h4⟩ := h
 have hl := int_key hK hn
 rcases mapi_find (w := w) hK h3 h4 hn with ⟨h5, h6⟩ | ⟨j, p, h5, h6, h7⟩
 · have hf : lookI D n z = (z, false) := by
    unfold lookI
    rw [List.find?_eq_none.2 fun p hp => by simpa using h6 p hp]
   rw [hf]
   cases ok <;> simp [Instr.lookup, run_underlying hT, Go.MapKept.run_getObj_map h1, (Go.Maps.int_keyed hK).check w _ hl, h5, hz, Result.andThen]
 · have hm := List.mem_of_getElem? h6
   have hf : lookI D n z = (p.2, true) := by
    unfold lookI
    have : D.find? (fun p => p.1 == n) = some p := by
     rw [List.find?_eq_some_iff_getElem]
     obtain ⟨hj, hje⟩ := List.getElem?_eq_some_iff.1 h6
     refine ⟨by simpa using h7, j, hj, hje, fun k hk => ?_⟩
     have := List.pairwise_iff_getElem.1 hD k j (by omega) hj hk
     rw [hje, h7] at this
     simpa using this
    rw [this]
   rw [hf]
   cases ok <;> simp [Instr.lookup, run_underlying hT, Go.MapKept.run_getObj_map h1, (Go.Maps.int_keyed hK).check w _ hl, h5, hz, Result.andThen]
end
end
end Go.Proofs.YtoadjbgpfihoiaaGreatDoor
