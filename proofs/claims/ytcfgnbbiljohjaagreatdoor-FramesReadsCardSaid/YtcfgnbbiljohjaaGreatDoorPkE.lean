/- Texts RdrN, RdrT, RdrE, WR, WRB, WRC, one behind the other. Conditions: as each says. -/
import Derived.Test.YtcfgnbbiljohjaaGreatDoorPkD
section
/- The program's reader: a number. Condition: it lies as 'readerR' says. -/
set_option linter.unusedVariables false
set_option linter.unusedSimpArgs false
set_option maxHeartbeats 2000000
set_option maxRecDepth 10000
namespace Go.Proofs.YtcfgnbbiljohjaaGreatDoor
open Go.RowKit
theorem Rdr.eta (r : Rdr) : (⟨r.b, r.e⟩ : Rdr) = r := rfl
/-- what Number's question keeps beside the reader -/
def numX (kr kg kn kl b : Nat) (g n : Int) : Res := listR [cellsR kr 81 [.pointer (some ⟨b, 0, none⟩)], cellsR kg 2 [.int .i64 g], cellsR kn 2 [.int .i64 n], cellsR kl 4 [.bool (decide (g < 0))]]
theorem Mem.shutX {F : Nat → Prop} {w0 w : World} {L : List Res} {kr kg kn kl b : Nat} {g n : Int} (h : Mem F w0 w (cellsR kr 81 [.pointer (some ⟨b, 0, none⟩)] :: cellsR kg 2 [.int .i64 g] :: cellsR kn 2 [.int .i64 n] :: cellsR kl 4 [.bool (decide (g < 0))] :: L)) : Mem F w0 w (numX kr kg kn kl b g n :: L) :=
  Mem.list' (L1 := [cellsR kr 81 [.pointer (some ⟨b, 0, none⟩)], cellsR kg 2 [.int .i64 g], cellsR kn 2 [.int .i64 n], cellsR kl 4 [.bool (decide (g < 0))]]) h
theorem Mem.openX {F : Nat → Prop} {w0 w : World} {L : List Res} {kr kg kn kl b : Nat} {g n : Int} (h : Mem F w0 w (numX kr kg kn kl b g n :: L)) : Mem F w0 w (cellsR kr 81 [.pointer (some ⟨b, 0, none⟩)] :: cellsR kg 2 [.int .i64 g] :: cellsR kn 2 [.int .i64 n] :: cellsR kl 4 [.bool (decide (g < 0))] :: L) :=
  Mem.unlist (L1 := [cellsR kr 81 [.pointer (some ⟨b, 0, none⟩)], cellsR kg 2 [.int .i64 g], cellsR kn 2 [.int .i64 n], cellsR kl 4 [.bool (decide (g < 0))]]) h
theorem number1_low {B : Nat → Prop} (w : World) (kr kg kn kl b : Nat) (g : Int) (r : Rdr) (hl : r.b.length ≤ 70368744177664) (hg : g < 0) (h : SepL [readerR b r, numX kr kg kn kl b g 0] B w) :
    Calls Tryz.prog 126 #[.pointer (some ⟨kl, 0, none⟩), .pointer (some ⟨kr, 0, none⟩), .pointer (some ⟨kg, 0, none⟩), .pointer (some ⟨kn, 0, none⟩)] w fun e w' => e = (if true = true then .returned (.tuple #[]) else brokenE) ∧ Upd B w w' (listR [readerR b r, numX kr kg kn kl b g 0]) := by
  have HLL := Lib.hid hl
  have HM := Lib.hid (Mem.start (F := B) (r := listR [readerR b r, numX kr kg kn kl b g 0]) h).unlist
  simp only [List.cons_append, List.nil_append] at HM
  replace HM := Lib.hid (HM.out.pick (r := numX kr kg kn kl b g 0) (by with_reducible repeat first | exact ph | apply pt)).openX
  clear h hl
  go_enter Tryz.func126, Tryz.ntmps126
  have fM := HM.out.fa
  go_wp2_with fail
  all_goals clear fM
  go_end0
  refine ⟨rfl, ?_⟩
  exact (Mem.list' (L1 := [readerR b r, numX kr kg kn kl b g 0]) (L := []) (Mem.sub (Mem.shutX (kr := kr) (kg := kg) (kn := kn) (kl := kl) (b := b) (g := g) (n := 0) (L := [readerR b r]) (Mem.sub HM.out (by repeat first | exact Sub.nil | refine Sub.cons (by with_reducible repeat first | exact ph | apply pt) ?_))) (by repeat first | exact Sub.nil | refine Sub.cons (by with_reducible repeat first | exact ph | apply pt) ?_))).upd
theorem number1_ok {B : Nat → Prop} (w : World) (kr kg kn kl b : Nat) (g : Int) (n k : Nat) (r : Rdr) (hl : r.b.length ≤ 70368744177664) (hg : ¬ g < 0) (hk : takeL r.b = (n, (k : Int))) (hk0 : 0 < k) (hn : (n : Int) ≤ g) (h : SepL [readerR b r, numX kr kg kn kl b g 0] B w) :
    Calls Tryz.prog 126 #[.pointer (some ⟨kl, 0, none⟩), .pointer (some ⟨kr, 0, none⟩), .pointer (some ⟨kg, 0, none⟩), .pointer (some ⟨kn, 0, none⟩)] w fun e w' => e = (if true = true then .returned (.tuple #[]) else brokenE) ∧ Upd B w w' (listR [readerR b ⟨r.b.drop k, r.e⟩, numX kr kg kn kl b g n]) := by
  have HK := Lib.hid (show _ ∧ _ ∧ _ from ⟨hk, hk0, hn⟩)
  clear hk hk0 hn
  have HLL := Lib.hid hl
  have HM := Lib.hid (Mem.start (F := B) (r := listR [readerR b r, numX kr kg kn kl b g 0]) h).unlist
  simp only [List.cons_append, List.nil_append] at HM
  replace HM := Lib.hid (HM.out.pick (r := numX kr kg kn kl b g 0) (by with_reducible repeat first | exact ph | apply pt)).openX
  clear h hl
  go_enter Tryz.func126, Tryz.ntmps126
  have fM := HM.out.fa
  go_wp2_with fail
  all_goals clear fM
  obtain ⟨C, hC, hS⟩ := (HM.out.pick (r := readerR b r) (by with_reducible repeat first | exact ph | apply pt)).step
  refine (rnum_ok w b n g k r HLL.out HK.out.1 HK.out.2.1 HK.out.2.2 hC).mono ?_
  rintro e w2 ⟨rfl, hU⟩
  replace HM := Lib.hid (hS _ _ hU)
  clear hU hS hC C
  have fM := HM.out.fa
  go_wp2_with fail
  all_goals clear fM
  go_end0
  refine ⟨rfl, ?_⟩
  refine nxt HM fun w3 M => ?_
  clear HM; have HM := M; clear M
  exact (Mem.list' (L1 := [readerR b ⟨r.b.drop k, r.e⟩, numX kr kg kn kl b g n]) (L := []) (Mem.sub (Mem.shutX (kr := kr) (kg := kg) (kn := kn) (kl := kl) (b := b) (g := g) (n := n) (L := [readerR b ⟨r.b.drop k, r.e⟩]) (Mem.sub HM.out (by repeat first | exact Sub.nil | refine Sub.cons (by with_reducible repeat first | exact ph | apply pt) ?_))) (by repeat first | exact Sub.nil | refine Sub.cons (by with_reducible repeat first | exact ph | apply pt) ?_))).upd
theorem number1_bad {B : Nat → Prop} (w : World) (kr kg kn kl b : Nat) (g : Int) (r : Rdr) (hl : r.b.length ≤ 70368744177664) (hg : ¬ g < 0) (hk : ¬ (0 < (takeL r.b).2 ∧ ((takeL r.b).1 : Int) ≤ g)) (h : SepL [readerR b r, numX kr kg kn kl b g 0] B w) :
    Calls Tryz.prog 126 #[.pointer (some ⟨kl, 0, none⟩), .pointer (some ⟨kr, 0, none⟩), .pointer (some ⟨kg, 0, none⟩), .pointer (some ⟨kn, 0, none⟩)] w fun e w' => e = (if false = true then .returned (.tuple #[]) else brokenE) ∧ Upd B w w' (listR [readerR b r, numX kr kg kn kl b g 0]) := by
  have HK := Lib.hid hk
  clear hk
  have HLL := Lib.hid hl
  have HM := Lib.hid (Mem.start (F := B) (r := listR [readerR b r, numX kr kg kn kl b g 0]) h).unlist
  simp only [List.cons_append, List.nil_append] at HM
  replace HM := Lib.hid (HM.out.pick (r := numX kr kg kn kl b g 0) (by with_reducible repeat first | exact ph | apply pt)).openX
  clear h hl
  go_enter Tryz.func126, Tryz.ntmps126
  have fM := HM.out.fa
  go_wp2_with fail
  all_goals clear fM
  obtain ⟨AhC, hC⟩ := HM.out.get (r := readerR b r) (by with_reducible repeat first | exact ph | apply pt)
  refine (rnum_bad w b g r HLL.out HK.out hC).mono ?_
  rintro e w' ⟨rfl, hwq⟩
  rw [hwq]
  clear hwq w' hC
  simp only [brokenE]
  go_wp2_with fail
  refine ⟨rfl, rfl, ?_⟩
  exact (Mem.list' (L1 := [readerR b r, numX kr kg kn kl b g 0]) (L := []) (Mem.sub (Mem.shutX (kr := kr) (kg := kg) (kn := kn) (kl := kl) (b := b) (g := g) (n := 0) (L := [readerR b r]) (Mem.sub HM.out (by repeat first | exact Sub.nil | refine Sub.cons (by with_reducible repeat first | exact ph | apply pt) ?_))) (by repeat first | exact Sub.nil | refine Sub.cons (by with_reducible repeat first | exact ph | apply pt) ?_))).upd
theorem rnumber_any {A : Nat → Prop} (w : World) (b : Nat) (g : Int) (r : Rdr) (hl : r.b.length ≤ 70368744177664) (h : (readerR b r).p A w) :
    Calls Tryz.prog 71 #[.pointer (some ⟨b, 0, none⟩), .int .i64 g] w fun e w' => e = .returned (.tuple #[.int .i64 ((r.num g).2.1 : Int), .int .i64 (r.num g).2.2]) ∧ Upd A w w' (readerR b (r.num g).1) := by
  have hmf : ∀ (fn : Fn) (first cap : Array Value) (w : World), (Instr.makeFunc fn first cap).run Tryz.prog w = .ok (.func fn first cap) w := fun _ _ _ _ => rfl
  have HM := Lib.hid (Mem.start (r := readerR b r) h)
  have HLL := Lib.hid hl
  clear h hl
  go_enter Tryz.func71, Tryz.ntmps71
  have fM := HM.out.fa
  go_wp2_with fail
  all_goals clear fM
  refine nxt HM fun w1 M => ?_
  clear HM; have HM := M; clear M
  obtain ⟨kr, hkr⟩ : ∃ k, w.heap.size = k := ⟨_, rfl⟩
  obtain ⟨kg, hkg⟩ : ∃ k, kr + 1 = k := ⟨_, rfl⟩
  obtain ⟨kn, hkn⟩ : ∃ k, kg + 1 = k := ⟨_, rfl⟩
  obtain ⟨kl, hkl⟩ : ∃ k, kn + 1 = k := ⟨_, rfl⟩
  rw [hkr, hkg, hkn, hkl] at HM ⊢
  clear hkr hkg hkn hkl
  have hen := enters_of (P := Tryz.prog) Tryz.func126 (by kernel_rfl) rfl
  replace HM := Lib.hid (Mem.list' (L1 := [readerR b r, numX kr kg kn kl b g 0]) (L := []) (Mem.sub (Mem.shutX (kr := kr) (kg := kg) (kn := kn) (kl := kl) (b := b) (g := g) (n := 0) (L := [readerR b r]) (Mem.sub HM.out (by repeat first | exact Sub.nil | refine Sub.cons (by with_reducible repeat first | exact ph | apply pt) ?_))) (by repeat first | exact Sub.nil | refine Sub.cons (by with_reducible repeat first | exact ph | apply pt) ?_)))
  obtain ⟨C, hC, hS⟩ := HM.out.step
  by_cases hr : r.e = 0
  case neg =>
    have hq : r.num g = (r, 0, r.e) := by unfold Rdr.num; rw [if_pos hr]
    have HQ := Lib.hid hq
    have HR := Lib.hid hr
    clear hq hr
    refine (try_err w1 b r _ _ HR.out hC).mono ?_
    rintro e w2 ⟨rfl, hU⟩
    replace HM := Lib.hid (hS _ _ hU).unlist
    simp only [List.cons_append, List.nil_append] at HM
    replace HM := Lib.hid (HM.out.pick (r := numX kr kg kn kl b g 0) (by with_reducible repeat first | exact ph | apply pt)).openX
    clear hU hS hC C hen hmf
    have hr' : (r.e == 0) = false := by simpa using HR.out
    have fM := HM.out.fa
    go_wp2_with fail
    all_goals clear fM
    refine nxt HM fun w3 M => ?_
    clear HM; have HM := M; clear M
    obtain ⟨Ahb, hb⟩ := HM.out.get (r := cellsR kn 2 [.int .i64 0]) (by with_reducible repeat first | exact ph | apply pt)
    have hc := hb.2.reads.1
    rw [HQ.out]
    refine bodyPost_ret (v := .tuple #[.int .i64 0, .int .i64 _]) (by simp [results, Tryz.results71, go_sem, hc]; try rfl) rfl ⟨rfl, ?_⟩
    exact (HM.out.pick (r := readerR b r) (by with_reducible repeat first | exact ph | apply pt)).upd
  by_cases hg : g < 0
  · have hq : r.num g = (r, 0, 2) := by unfold Rdr.num; rw [if_neg (by simpa using hr), if_pos hg]
    have HQ := Lib.hid hq
    clear hq
    refine (try_any w1 b _ _ r r _ _ true hr hen hC fun B w2 h2 => number1_low w2 kr kg kn kl b g r HLL.out hg h2).mono ?_
    rintro e w2 ⟨rfl, hU⟩
    simp only [if_true] at hU ⊢
    replace HM := Lib.hid (hS _ _ hU).unlist
    simp only [List.cons_append, List.nil_append] at HM
    replace HM := Lib.hid (HM.out.pick (r := numX kr kg kn kl b g 0) (by with_reducible repeat first | exact ph | apply pt)).openX
    clear hU hS hC C hen hmf
    have hg' : decide (g < 0) = true := decide_eq_true hg
    clear hr
    have fM := HM.out.fa
    go_wp2_with fail
    all_goals clear fM
    refine nxt HM fun w3 M => ?_
    clear HM; have HM := M; clear M
    obtain ⟨Ahb, hb⟩ := HM.out.get (r := cellsR kn 2 [.int .i64 0]) (by with_reducible repeat first | exact ph | apply pt)
    have hc := hb.2.reads.1
    rw [HQ.out]
    refine bodyPost_ret (v := .tuple #[.int .i64 0, .int .i64 _]) (by simp [results, Tryz.results71, go_sem, hc]; try rfl) rfl ⟨rfl, ?_⟩
    exact (HM.out.pick (r := readerR b r) (by with_reducible repeat first | exact ph | apply pt)).upd
  by_cases hk : 0 < (takeL r.b).2 ∧ ((takeL r.b).1 : Int) ≤ g
  · obtain ⟨k, hkk⟩ : ∃ k : Nat, (takeL r.b).2 = k := ⟨(takeL r.b).2.toNat, by omega⟩
    obtain ⟨n, hn⟩ : ∃ n, (takeL r.b).1 = n := ⟨_, rfl⟩
    have ht : takeL r.b = (n, (k : Int)) := by rw [← hn, ← hkk]
    rw [hkk, hn] at hk
    have hq : r.num g = (⟨r.b.drop k, r.e⟩, n, 0) := by
      unfold Rdr.num
      rw [if_neg (by simpa using hr), if_neg hg, ht, if_pos hk, hr]
      rfl
    have HQ := Lib.hid hq
    clear hq hkk hn
    refine (try_any w1 b _ _ r ⟨r.b.drop k, r.e⟩ _ _ true hr hen hC fun B w2 h2 => number1_ok w2 kr kg kn kl b g n k r HLL.out hg ht (by omega) hk.2 h2).mono ?_
    rintro e w2 ⟨rfl, hU⟩
    simp only [if_true] at hU ⊢
    replace HM := Lib.hid (hS _ _ hU).unlist
    simp only [List.cons_append, List.nil_append] at HM
    replace HM := Lib.hid (HM.out.pick (r := numX kr kg kn kl b g n) (by with_reducible repeat first | exact ph | apply pt)).openX
    clear hU hS hC C hen hmf
    clear hr hk ht
    have hg' : decide (g < 0) = false := decide_eq_false hg
    have fM := HM.out.fa
    go_wp2_with fail
    all_goals clear fM
    refine nxt HM fun w3 M => ?_
    clear HM; have HM := M; clear M
    obtain ⟨Ahb, hb⟩ := HM.out.get (r := cellsR kn 2 [.int .i64 n]) (by with_reducible repeat first | exact ph | apply pt)
    have hc := hb.2.reads.1
    rw [HQ.out]
    refine bodyPost_ret (v := .tuple #[.int .i64 n, .int .i64 _]) (by simp [results, Tryz.results71, go_sem, hc]; try rfl) rfl ⟨rfl, ?_⟩
    exact (HM.out.pick (r := readerR b ⟨r.b.drop k, r.e⟩) (by with_reducible repeat first | exact ph | apply pt)).upd
  · have hq : r.num g = (Rdr.bad, 0, 120) := by unfold Rdr.num; rw [if_neg (by simpa using hr), if_neg hg, if_neg hk]
    have HQ := Lib.hid hq
    clear hq
    refine (try_any w1 b _ _ r r _ _ false hr hen hC fun B w2 h2 => number1_bad w2 kr kg kn kl b g r HLL.out hg hk h2).mono ?_
    rintro e w2 ⟨rfl, hU⟩
    simp only [Bool.false_eq_true, if_false] at hU ⊢
    replace HM := Lib.hid (hS _ _ hU).unlist
    simp only [List.cons_append, List.nil_append] at HM
    replace HM := Lib.hid (HM.out.pick (r := numX kr kg kn kl b g 0) (by with_reducible repeat first | exact ph | apply pt)).openX
    clear hU hS hC C hen hmf
    clear hr hk
    have fM := HM.out.fa
    go_wp2_with fail
    all_goals clear fM
    refine nxt HM fun w3 M => ?_
    clear HM; have HM := M; clear M
    obtain ⟨Ahb, hb⟩ := HM.out.get (r := cellsR kn 2 [.int .i64 0]) (by with_reducible repeat first | exact ph | apply pt)
    have hc := hb.2.reads.1
    rw [HQ.out]
    refine bodyPost_ret (v := .tuple #[.int .i64 0, .int .i64 _]) (by simp [results, Tryz.results71, go_sem, hc]; try rfl) rfl ⟨rfl, ?_⟩
    exact (HM.out.pick (r := readerR b Rdr.bad) (by with_reducible repeat first | exact ph | apply pt)).upd
end Go.Proofs.YtcfgnbbiljohjaaGreatDoor
end
section
/- The program's reader: a text. Condition: it lies as 'readerR' says. -/
set_option linter.unusedVariables false
set_option linter.unusedSimpArgs false
set_option maxHeartbeats 2000000
set_option maxRecDepth 10000
namespace Go.Proofs.YtcfgnbbiljohjaaGreatDoor
open Go.RowKit
/-- what Number's question keeps beside the reader -/
def txtX (kr kg kn kl b : Nat) (g : Int) (s : List UInt8) : Res := listR [cellsR kr 81 [.pointer (some ⟨b, 0, none⟩)], cellsR kg 3 [.int .i64 g], cellsR kn 9 [.string (bs s)], cellsR kl 4 [.bool (decide (g < 0))]]
theorem Mem.shutTX {F : Nat → Prop} {w0 w : World} {L : List Res} {kr kg kn kl b : Nat} {g : Int} {s : List UInt8} (h : Mem F w0 w (cellsR kr 81 [.pointer (some ⟨b, 0, none⟩)] :: cellsR kg 3 [.int .i64 g] :: cellsR kn 9 [.string (bs s)] :: cellsR kl 4 [.bool (decide (g < 0))] :: L)) : Mem F w0 w (txtX kr kg kn kl b g s :: L) :=
  Mem.list' (L1 := [cellsR kr 81 [.pointer (some ⟨b, 0, none⟩)], cellsR kg 3 [.int .i64 g], cellsR kn 9 [.string (bs s)], cellsR kl 4 [.bool (decide (g < 0))]]) h
theorem Mem.openTX {F : Nat → Prop} {w0 w : World} {L : List Res} {kr kg kn kl b : Nat} {g : Int} {s : List UInt8} (h : Mem F w0 w (txtX kr kg kn kl b g s :: L)) : Mem F w0 w (cellsR kr 81 [.pointer (some ⟨b, 0, none⟩)] :: cellsR kg 3 [.int .i64 g] :: cellsR kn 9 [.string (bs s)] :: cellsR kl 4 [.bool (decide (g < 0))] :: L) :=
  Mem.unlist (L1 := [cellsR kr 81 [.pointer (some ⟨b, 0, none⟩)], cellsR kg 3 [.int .i64 g], cellsR kn 9 [.string (bs s)], cellsR kl 4 [.bool (decide (g < 0))]]) h
theorem Upd.pre {A : Nat → Prop} {w w1 w2 : World} {r : Res} (e : Ext w w1) (u : Upd A w1 w2 r) : Upd A w w2 r := by
  obtain ⟨F', u1, u2, u3⟩ := u
  refine ⟨F', u1, (Ext.keeps e).trans u2, fun k hk => ?_⟩
  rcases u3 k hk with h | h
  · exact .inl h
  · have := e.size; exact .inr (by omega)
/-- a thing that lies apart from two blocks -/
theorem Mem.apart2 {F : Nat → Prop} {w0 w : World} {L L1 L2 L3 : List Res} {r : Res} {b1 b2 : Nat} {t1 t2 : TypeId} {c1 c2 : List Value} (h : Mem F w0 w L) (p : Pick L r L1) (p1 : Pick L1 (cellsR b1 t1 c1) L2) (p2 : Pick L1 (cellsR b2 t2 c2) L3) :
    ∃ C, r.p C w ∧ ¬ C b1 ∧ ¬ C b2 ∧ ∀ (r' : Res) (w' : World), Upd C w w' r' → Mem F w0 w' (r' :: L1) := by
  have hm := h.pick p
  obtain ⟨C, hC, -, hS⟩ := hm.step'
  obtain ⟨a, G, ⟨A, B, h1, h2, h3, h4⟩, c⟩ := hm
  have f : ∀ {b : Nat} {t : TypeId} {cs : List Value} {L' : List Res}, Pick L1 (cellsR b t cs) L' → B b := fun q => by
    obtain ⟨A', B', g1, g2, g3, g4⟩ := q.sep h2
    exact (g4 _).2 (.inl ((g1.1 _).2 rfl))
  refine ⟨A, h1, fun hA => h3 _ hA (f p1), fun hA => h3 _ hA (f p2), fun r' w' hU => ?_⟩
  obtain ⟨A', u1, u2, u3⟩ := hU
  have hA := fun k hk => c k ((h4 k).2 (.inl hk))
  have hB := fun k hk => c k ((h4 k).2 (.inr hk))
  have hlt := h2.lt
  refine ⟨a.then u2 fun i hi h => ?_, fun k => A' k ∨ B k, ⟨A', B, u1, h2.keeps u2 fun k hk hA' => h3 k hA' hk, fun k h5 h6 => ?_, fun k => Iff.rfl⟩, fun k hk => ?_⟩
  · rcases hA i h with h | h
    · exact h
    · omega
  · rcases u3 k h5 with h | h
    · exact h3 k h h6
    · have := hlt k h6; omega
  · rcases hk with hk | hk
    · rcases u3 k hk with h | h
      · exact hA k h
      · have := a.size; exact .inr (by omega)
    · exact hB k hk
theorem bs_nil : bs [] = ⟨#[]⟩ := rfl
theorem text1_low {B : Nat → Prop} (w : World) (kr kg kn kl b : Nat) (g : Int) (r : Rdr) (hl : r.b.length ≤ 70368744177664) (hg : g < 0) (h : SepL [readerR b r, txtX kr kg kn kl b g []] B w) :
    Calls Tryz.prog 149 #[.pointer (some ⟨kl, 0, none⟩), .pointer (some ⟨kr, 0, none⟩), .pointer (some ⟨kg, 0, none⟩), .pointer (some ⟨kn, 0, none⟩)] w fun e w' => e = (if true = true then .returned (.tuple #[]) else brokenE) ∧ Upd B w w' (listR [readerR b r, txtX kr kg kn kl b g []]) := by
  have HLL := Lib.hid hl
  have HM := Lib.hid (Mem.start (F := B) (r := listR [readerR b r, txtX kr kg kn kl b g []]) h).unlist
  simp only [List.cons_append, List.nil_append] at HM
  replace HM := Lib.hid (HM.out.pick (r := txtX kr kg kn kl b g []) (by with_reducible repeat first | exact ph | apply pt)).openTX
  clear h hl
  go_enter Tryz.func149, Tryz.ntmps149
  have fM := HM.out.fa
  go_wp2_with fail
  all_goals clear fM
  go_end0
  refine ⟨rfl, ?_⟩
  exact (Mem.list' (L1 := [readerR b r, txtX kr kg kn kl b g []]) (L := []) (Mem.sub (Mem.shutTX (kr := kr) (kg := kg) (kn := kn) (kl := kl) (b := b) (g := g) (s := []) (L := [readerR b r]) (Mem.sub HM.out (by repeat first | exact Sub.nil | refine Sub.cons (by with_reducible repeat first | exact ph | apply pt) ?_))) (by repeat first | exact Sub.nil | refine Sub.cons (by with_reducible repeat first | exact ph | apply pt) ?_))).upd
theorem text1_ok {B : Nat → Prop} (w : World) (kr kg kn kl b : Nat) (g : Int) (n k : Nat) (r : Rdr) (hl : r.b.length ≤ 70368744177664) (hg : ¬ g < 0) (hk : takeL r.b = (n, (k : Int))) (hk0 : 0 < k) (hn : (n : Int) ≤ g) (hn2 : n ≤ (r.b.drop k).length) (h : SepL [readerR b r, txtX kr kg kn kl b g []] B w) :
    Calls Tryz.prog 149 #[.pointer (some ⟨kl, 0, none⟩), .pointer (some ⟨kr, 0, none⟩), .pointer (some ⟨kg, 0, none⟩), .pointer (some ⟨kn, 0, none⟩)] w fun e w' => e = (if true = true then .returned (.tuple #[]) else brokenE) ∧ Upd B w w' (listR [readerR b ⟨(r.b.drop k).drop n, r.e⟩, txtX kr kg kn kl b g ((r.b.drop k).take n)]) := by
  have HK := Lib.hid (show _ ∧ _ ∧ _ ∧ _ from ⟨hk, hk0, hn, hn2⟩)
  clear hk hk0 hn hn2
  have HLL := Lib.hid hl
  have HM := Lib.hid (Mem.start (F := B) (r := listR [readerR b r, txtX kr kg kn kl b g []]) h).unlist
  simp only [List.cons_append, List.nil_append] at HM
  replace HM := Lib.hid (HM.out.pick (r := txtX kr kg kn kl b g []) (by with_reducible repeat first | exact ph | apply pt)).openTX
  clear h hl
  go_enter Tryz.func149, Tryz.ntmps149
  have fM := HM.out.fa
  go_wp2_with fail
  all_goals clear fM
  obtain ⟨C, hC, ha1, ha2, hS⟩ := HM.out.apart2 (r := readerR b r) (b1 := kr) (b2 := kg) (by with_reducible repeat first | exact ph | apply pt) (by with_reducible repeat first | exact ph | apply pt) (by with_reducible repeat first | exact ph | apply pt)
  have fM := HM.out.fa
  have hE0 : Keeps (C) w w.drew := (Keeps.refl _ _).drew
  refine wp_region_plan [(1, 0), (0, 1), (0, 2), (3, 3), (3, 4), (2, 5)] [0] [5, 6, 7, 8] [6, 7, 8] (ClsK (C) w) (by kernel_rfl) (by kernel_rfl) (by kernel_rfl) rfl rfl (ClsK.of hE0) (fun _ _ _ d _ h => by cases d <;> exact h) ?_; simp only [planL, nL]
  refine pK (v := ?_) rfl (fun W => ?_) ?_; rotate_left; (go_simp <;> with_reducible rfl); simp only [nP]
  iterate 2 (refine pR (v := ?_) rfl (fun W => ?_) ?_; rotate_left; (go_simp <;> with_reducible rfl); simp only [nP])
  iterate 2 (refine pX (v := ?_) rfl ?_ ?_; rotate_left; (go_simp <;> with_reducible rfl); simp only [nP])
  refine plan_does rfl (fun K hK => ?_)
  go_wp2_with fail
  refine (rnum_ok _ b n g k r HLL.out HK.out.1 HK.out.2.1 HK.out.2.2.1 (Res.keeps _ hC (Ext.drew0 w) (fun _ _ => noB _))).mono ?_
  rintro e w2 ⟨rfl, hU⟩
  have hU2 := hU.pre (Ext.drew0 w)
  have hE1 := hU2.keepsTo
  clear hU
  refine hK _ _ ⟨ClsK.of (by assumption), ?_⟩; clear hK K; try simp only [nP]
  refine plan_nil ?_; simp only [tailL, List.filterMap_cons, List.filterMap_nil, nL]; change wpList _ _ _ (_ :: _ :: _ :: []) _ _
  clear fM
  replace HM := Lib.hid (hS _ _ hU2)
  clear hU2 hE1 hE0 hS hC ha1 ha2
  obtain ⟨q, hq⟩ : ∃ q, r.b.drop k = q := ⟨_, rfl⟩
  have HQL := Lib.hid (show q.length ≤ 70368744177664 by rw [← hq, List.length_drop]; have := HLL.out; omega)
  have HN2 := Lib.hid HK.out.2.2.2
  rw [hq] at HM HN2
  have HQ := Lib.hid hq
  clear hq
  have fM := HM.out.fa
  go_wp2_with fail
  all_goals clear fM
  obtain ⟨D, hD, hS⟩ := (HM.out.pick (r := readerR b ⟨q, r.e⟩) (by with_reducible repeat first | exact ph | apply pt)).step
  refine (ltake_ok w2 b n ⟨q, r.e⟩ HQL.out HN2.out hD).mono ?_
  rintro e w3 ⟨⟨a1, c1, B1, rfl, hb1⟩, hU⟩
  replace HM := Lib.hid (hS _ _ hU)
  have hcv := hb1.str
  clear hU hS hD hb1
  have fM := HM.out.fa
  go_wp2_with fail
  all_goals clear fM
  refine nxt HM fun w4 M => ?_
  clear HM; have HM := M; clear M
  go_end0
  rw [HQ.out]
  refine ⟨by simp, ?_⟩
  obtain ⟨s, hs⟩ : ∃ s, q.take n = s := ⟨_, rfl⟩
  rw [hs] at HM ⊢
  rw [show List.drop (k + n) r.b = q.drop n by rw [← HQ.out, List.drop_drop]]
  exact (Mem.list' (L1 := [readerR b ⟨q.drop n, r.e⟩, txtX kr kg kn kl b g s]) (L := []) (Mem.sub (Mem.shutTX (kr := kr) (kg := kg) (kn := kn) (kl := kl) (b := b) (g := g) (s := s) (L := [readerR b ⟨q.drop n, r.e⟩]) (Mem.sub HM.out (by repeat first | exact Sub.nil | refine Sub.cons (by with_reducible repeat first | exact ph | apply pt) ?_))) (by repeat first | exact Sub.nil | refine Sub.cons (by with_reducible repeat first | exact ph | apply pt) ?_))).upd
theorem text1_bad {B : Nat → Prop} (w : World) (kr kg kn kl b : Nat) (g : Int) (r : Rdr) (hl : r.b.length ≤ 70368744177664) (hg : ¬ g < 0) (hk : ¬ (0 < (takeL r.b).2 ∧ ((takeL r.b).1 : Int) ≤ g)) (h : SepL [readerR b r, txtX kr kg kn kl b g []] B w) :
    Calls Tryz.prog 149 #[.pointer (some ⟨kl, 0, none⟩), .pointer (some ⟨kr, 0, none⟩), .pointer (some ⟨kg, 0, none⟩), .pointer (some ⟨kn, 0, none⟩)] w fun e w' => e = (if false = true then .returned (.tuple #[]) else brokenE) ∧ Upd B w w' (listR [readerR b r, txtX kr kg kn kl b g []]) := by
  have HK := Lib.hid hk
  clear hk
  have HLL := Lib.hid hl
  have HM := Lib.hid (Mem.start (F := B) (r := listR [readerR b r, txtX kr kg kn kl b g []]) h).unlist
  simp only [List.cons_append, List.nil_append] at HM
  replace HM := Lib.hid (HM.out.pick (r := txtX kr kg kn kl b g []) (by with_reducible repeat first | exact ph | apply pt)).openTX
  clear h hl
  go_enter Tryz.func149, Tryz.ntmps149
  have fM := HM.out.fa
  go_wp2_with fail
  all_goals clear fM
  obtain ⟨C, hC, ha1, ha2, hS⟩ := HM.out.apart2 (r := readerR b r) (b1 := kr) (b2 := kg) (by with_reducible repeat first | exact ph | apply pt) (by with_reducible repeat first | exact ph | apply pt) (by with_reducible repeat first | exact ph | apply pt)
  have fM := HM.out.fa
  have hE0 : Keeps (C) w w.drew := (Keeps.refl _ _).drew
  refine wp_region_plan [(1, 0), (0, 1), (0, 2), (3, 3), (3, 4), (2, 5)] [0] [5, 6, 7, 8] [6, 7, 8] (ClsK (C) w) (by kernel_rfl) (by kernel_rfl) (by kernel_rfl) rfl rfl (ClsK.of hE0) (fun _ _ _ d _ h => by cases d <;> exact h) ?_; simp only [planL, nL]
  refine pK (v := ?_) rfl (fun W => ?_) ?_; rotate_left; (go_simp <;> with_reducible rfl); simp only [nP]
  iterate 2 (refine pR (v := ?_) rfl (fun W => ?_) ?_; rotate_left; (go_simp <;> with_reducible rfl); simp only [nP])
  iterate 2 (refine pX (v := ?_) rfl ?_ ?_; rotate_left; (go_simp <;> with_reducible rfl); simp only [nP])
  refine plan_does rfl (fun K hK => ?_)
  go_wp2_with fail
  refine (rnum_bad _ b g r HLL.out HK.out (Res.keeps _ hC (Ext.drew0 w) (fun _ _ => noB _))).mono ?_
  rintro e w' ⟨rfl, hwq⟩
  rw [hwq]
  clear hwq w'
  simp only [brokenE]
  refine ⟨rfl, rfl, ?_⟩
  clear hK K hE0 hS ha1 ha2 hC
  clear fM
  replace HM := Lib.hid HM.out.drew
  exact (Mem.list' (L1 := [readerR b r, txtX kr kg kn kl b g []]) (L := []) (Mem.sub (Mem.shutTX (kr := kr) (kg := kg) (kn := kn) (kl := kl) (b := b) (g := g) (s := []) (L := [readerR b r]) (Mem.sub HM.out (by repeat first | exact Sub.nil | refine Sub.cons (by with_reducible repeat first | exact ph | apply pt) ?_))) (by repeat first | exact Sub.nil | refine Sub.cons (by with_reducible repeat first | exact ph | apply pt) ?_))).upd
theorem text1_bad2 {B : Nat → Prop} (w : World) (kr kg kn kl b : Nat) (g : Int) (n k : Nat) (r : Rdr) (hl : r.b.length ≤ 70368744177664) (hg : ¬ g < 0) (hk : takeL r.b = (n, (k : Int))) (hk0 : 0 < k) (hn : (n : Int) ≤ g) (hn2 : (r.b.drop k).length < n) (h : SepL [readerR b r, txtX kr kg kn kl b g []] B w) :
    Calls Tryz.prog 149 #[.pointer (some ⟨kl, 0, none⟩), .pointer (some ⟨kr, 0, none⟩), .pointer (some ⟨kg, 0, none⟩), .pointer (some ⟨kn, 0, none⟩)] w fun e w' => e = (if false = true then .returned (.tuple #[]) else brokenE) ∧ Upd B w w' (listR [readerR b ⟨r.b.drop k, r.e⟩, txtX kr kg kn kl b g []]) := by
  have HK := Lib.hid (show _ ∧ _ ∧ _ ∧ _ from ⟨hk, hk0, hn, hn2⟩)
  clear hk hk0 hn hn2
  have HLL := Lib.hid hl
  have HM := Lib.hid (Mem.start (F := B) (r := listR [readerR b r, txtX kr kg kn kl b g []]) h).unlist
  simp only [List.cons_append, List.nil_append] at HM
  replace HM := Lib.hid (HM.out.pick (r := txtX kr kg kn kl b g []) (by with_reducible repeat first | exact ph | apply pt)).openTX
  clear h hl
  go_enter Tryz.func149, Tryz.ntmps149
  have fM := HM.out.fa
  go_wp2_with fail
  all_goals clear fM
  obtain ⟨C, hC, ha1, ha2, hS⟩ := HM.out.apart2 (r := readerR b r) (b1 := kr) (b2 := kg) (by with_reducible repeat first | exact ph | apply pt) (by with_reducible repeat first | exact ph | apply pt) (by with_reducible repeat first | exact ph | apply pt)
  have fM := HM.out.fa
  have hE0 : Keeps (C) w w.drew := (Keeps.refl _ _).drew
  refine wp_region_plan [(1, 0), (0, 1), (0, 2), (3, 3), (3, 4), (2, 5)] [0] [5, 6, 7, 8] [6, 7, 8] (ClsK (C) w) (by kernel_rfl) (by kernel_rfl) (by kernel_rfl) rfl rfl (ClsK.of hE0) (fun _ _ _ d _ h => by cases d <;> exact h) ?_; simp only [planL, nL]
  refine pK (v := ?_) rfl (fun W => ?_) ?_; rotate_left; (go_simp <;> with_reducible rfl); simp only [nP]
  iterate 2 (refine pR (v := ?_) rfl (fun W => ?_) ?_; rotate_left; (go_simp <;> with_reducible rfl); simp only [nP])
  iterate 2 (refine pX (v := ?_) rfl ?_ ?_; rotate_left; (go_simp <;> with_reducible rfl); simp only [nP])
  refine plan_does rfl (fun K hK => ?_)
  go_wp2_with fail
  refine (rnum_ok _ b n g k r HLL.out HK.out.1 HK.out.2.1 HK.out.2.2.1 (Res.keeps _ hC (Ext.drew0 w) (fun _ _ => noB _))).mono ?_
  rintro e w2 ⟨rfl, hU⟩
  have hU2 := hU.pre (Ext.drew0 w)
  have hE1 := hU2.keepsTo
  clear hU
  refine hK _ _ ⟨ClsK.of (by assumption), ?_⟩; clear hK K; try simp only [nP]
  refine plan_nil ?_; simp only [tailL, List.filterMap_cons, List.filterMap_nil, nL]; change wpList _ _ _ (_ :: _ :: _ :: []) _ _
  clear fM
  replace HM := Lib.hid (hS _ _ hU2)
  clear hU2 hE1 hE0 hS hC ha1 ha2
  have fM := HM.out.fa
  go_wp2_with fail
  all_goals clear fM
  obtain ⟨AhD, hD⟩ := HM.out.get (r := readerR b ⟨r.b.drop k, r.e⟩) (by with_reducible repeat first | exact ph | apply pt)
  refine (ltake_bad w2 b n ⟨r.b.drop k, r.e⟩ (by rw [List.length_drop]; have := HLL.out; omega) HK.out.2.2.2 hD).mono ?_
  rintro e w' ⟨rfl, hwq⟩
  rw [hwq]
  clear hwq w' hD
  simp only [brokenE]
  refine ⟨rfl, rfl, ?_⟩
  exact (Mem.list' (L1 := [readerR b ⟨r.b.drop k, r.e⟩, txtX kr kg kn kl b g []]) (L := []) (Mem.sub (Mem.shutTX (kr := kr) (kg := kg) (kn := kn) (kl := kl) (b := b) (g := g) (s := []) (L := [readerR b ⟨r.b.drop k, r.e⟩]) (Mem.sub HM.out (by repeat first | exact Sub.nil | refine Sub.cons (by with_reducible repeat first | exact ph | apply pt) ?_))) (by repeat first | exact Sub.nil | refine Sub.cons (by with_reducible repeat first | exact ph | apply pt) ?_))).upd
theorem rtext_any {A : Nat → Prop} (w : World) (b : Nat) (g : Int) (r : Rdr) (hl : r.b.length ≤ 70368744177664) (h : (readerR b r).p A w) :
    Calls Tryz.prog 131 #[.pointer (some ⟨b, 0, none⟩), .int .i64 g] w fun e w' => e = .returned (.tuple #[.string (bs (r.txt g).2.1), .int .i64 (r.txt g).2.2]) ∧ Upd A w w' (readerR b (r.txt g).1) := by
  have hmf : ∀ (fn : Fn) (first cap : Array Value) (w : World), (Instr.makeFunc fn first cap).run Tryz.prog w = .ok (.func fn first cap) w := fun _ _ _ _ => rfl
  have HM := Lib.hid (Mem.start (r := readerR b r) h)
  have HLL := Lib.hid hl
  clear h hl
  go_enter Tryz.func131, Tryz.ntmps131
  have fM := HM.out.fa
  go_wp2_with fail
  all_goals clear fM
  refine nxt HM fun w1 M => ?_
  clear HM; have HM := M; clear M
  obtain ⟨kr, hkr⟩ : ∃ k, w.heap.size = k := ⟨_, rfl⟩
  obtain ⟨kg, hkg⟩ : ∃ k, kr + 1 = k := ⟨_, rfl⟩
  obtain ⟨kn, hkn⟩ : ∃ k, kg + 1 = k := ⟨_, rfl⟩
  obtain ⟨kl, hkl⟩ : ∃ k, kn + 1 = k := ⟨_, rfl⟩
  rw [hkr, hkg, hkn, hkl] at HM ⊢
  rw [← bs_nil] at HM
  clear hkr hkg hkn hkl
  have hen := enters_of (P := Tryz.prog) Tryz.func149 (by kernel_rfl) rfl
  replace HM := Lib.hid (Mem.list' (L1 := [readerR b r, txtX kr kg kn kl b g []]) (L := []) (Mem.sub (Mem.shutTX (kr := kr) (kg := kg) (kn := kn) (kl := kl) (b := b) (g := g) (s := []) (L := [readerR b r]) (Mem.sub HM.out (by repeat first | exact Sub.nil | refine Sub.cons (by with_reducible repeat first | exact ph | apply pt) ?_))) (by repeat first | exact Sub.nil | refine Sub.cons (by with_reducible repeat first | exact ph | apply pt) ?_)))
  obtain ⟨C, hC, hS⟩ := HM.out.step
  by_cases hr : r.e = 0
  case neg =>
    have hq : r.txt g = (r, [], r.e) := by unfold Rdr.txt Rdr.num; rw [if_pos hr]; exact if_pos hr
    have HQ := Lib.hid hq
    have HR := Lib.hid hr
    clear hq hr
    refine (try_err w1 b r _ _ HR.out hC).mono ?_
    rintro e w2 ⟨rfl, hU⟩
    replace HM := Lib.hid (hS _ _ hU).unlist
    simp only [List.cons_append, List.nil_append] at HM
    replace HM := Lib.hid (HM.out.pick (r := txtX kr kg kn kl b g []) (by with_reducible repeat first | exact ph | apply pt)).openTX
    clear hU hS hC C hen hmf
    have hr' : (r.e == 0) = false := by simpa using HR.out
    have fM := HM.out.fa
    go_wp2_with fail
    all_goals clear fM
    refine nxt HM fun w3 M => ?_
    clear HM; have HM := M; clear M
    obtain ⟨Ahb, hb⟩ := HM.out.get (r := cellsR kn 9 [.string (bs [])]) (by with_reducible repeat first | exact ph | apply pt)
    have hc := hb.2.reads.1
    rw [HQ.out]
    refine bodyPost_ret (v := .tuple #[.string (bs []), .int .i64 _]) (by simp [results, Tryz.results131, go_sem, hc]; try rfl) rfl ⟨rfl, ?_⟩
    exact (HM.out.pick (r := readerR b r) (by with_reducible repeat first | exact ph | apply pt)).upd
  have hne : ¬ r.e ≠ 0 := by simpa using hr
  by_cases hg : g < 0
  · have hq : r.txt g = (r, [], 2) := by unfold Rdr.txt Rdr.num; rw [if_neg hne, if_pos hg]; rfl
    have HQ := Lib.hid hq
    clear hq hne
    refine (try_any w1 b _ _ r r _ _ true hr hen hC fun B w2 h2 => text1_low w2 kr kg kn kl b g r HLL.out hg h2).mono ?_
    rintro e w2 ⟨rfl, hU⟩
    simp only [if_true] at hU ⊢
    replace HM := Lib.hid (hS _ _ hU).unlist
    simp only [List.cons_append, List.nil_append] at HM
    replace HM := Lib.hid (HM.out.pick (r := txtX kr kg kn kl b g []) (by with_reducible repeat first | exact ph | apply pt)).openTX
    clear hU hS hC C hen hmf
    have hg' : decide (g < 0) = true := decide_eq_true hg
    clear hr
    have fM := HM.out.fa
    go_wp2_with fail
    all_goals clear fM
    refine nxt HM fun w3 M => ?_
    clear HM; have HM := M; clear M
    obtain ⟨Ahb, hb⟩ := HM.out.get (r := cellsR kn 9 [.string (bs [])]) (by with_reducible repeat first | exact ph | apply pt)
    have hc := hb.2.reads.1
    rw [HQ.out]
    refine bodyPost_ret (v := .tuple #[.string (bs []), .int .i64 _]) (by simp [results, Tryz.results131, go_sem, hc]; try rfl) rfl ⟨rfl, ?_⟩
    exact (HM.out.pick (r := readerR b r) (by with_reducible repeat first | exact ph | apply pt)).upd
  by_cases hk : 0 < (takeL r.b).2 ∧ ((takeL r.b).1 : Int) ≤ g
  · obtain ⟨k, hkk⟩ : ∃ k : Nat, (takeL r.b).2 = k := ⟨(takeL r.b).2.toNat, by omega⟩
    obtain ⟨n, hn⟩ : ∃ n, (takeL r.b).1 = n := ⟨_, rfl⟩
    have ht : takeL r.b = (n, (k : Int)) := by rw [← hn, ← hkk]
    rw [hkk, hn] at hk
    have hq0 : r.num g = (⟨r.b.drop k, 0⟩, n, 0) := by
      unfold Rdr.num
      rw [if_neg hne, if_neg hg, ht, if_pos hk]
      rfl
    by_cases hn2 : n ≤ (r.b.drop k).length
    · have hq : r.txt g = (⟨(r.b.drop k).drop n, r.e⟩, (r.b.drop k).take n, 0) := by
        unfold Rdr.txt
        rw [hq0, hr]
        exact (if_neg (by simp)).trans (if_pos hn2)
      have HQ := Lib.hid hq
      clear hq hkk hn hq0 hne
      refine (try_any w1 b _ _ r ⟨(r.b.drop k).drop n, r.e⟩ _ _ true hr hen hC fun B w2 h2 => text1_ok w2 kr kg kn kl b g n k r HLL.out hg ht (by omega) hk.2 hn2 h2).mono ?_
      rintro e w2 ⟨rfl, hU⟩
      simp only [if_true] at hU ⊢
      obtain ⟨s, hs⟩ : ∃ s, (r.b.drop k).take n = s := ⟨_, rfl⟩
      obtain ⟨d, hd⟩ : ∃ d, (r.b.drop k).drop n = d := ⟨_, rfl⟩
      rw [hs, hd] at hU HQ
      clear hs hd
      replace HM := Lib.hid (hS _ _ hU).unlist
      simp only [List.cons_append, List.nil_append] at HM
      replace HM := Lib.hid (HM.out.pick (r := txtX kr kg kn kl b g s) (by with_reducible repeat first | exact ph | apply pt)).openTX
      clear hU hS hC C hen hmf
      clear hr hk ht hn2
      have hg' : decide (g < 0) = false := decide_eq_false hg
      have fM := HM.out.fa
      go_wp2_with fail
      all_goals clear fM
      refine nxt HM fun w3 M => ?_
      clear HM; have HM := M; clear M
      obtain ⟨Ahb, hb⟩ := HM.out.get (r := cellsR kn 9 [.string (bs s)]) (by with_reducible repeat first | exact ph | apply pt)
      have hc := hb.2.reads.1
      rw [HQ.out]
      refine bodyPost_ret (v := .tuple #[.string (bs s), .int .i64 _]) (by simp [results, Tryz.results131, go_sem, hc]; try rfl) rfl ⟨rfl, ?_⟩
      exact (HM.out.pick (r := readerR b ⟨d, r.e⟩) (by with_reducible repeat first | exact ph | apply pt)).upd
    · have hq : r.txt g = (Rdr.bad, [], 120) := by
        unfold Rdr.txt
        rw [hq0]
        exact (if_neg (by simp)).trans (if_neg hn2)
      have HQ := Lib.hid hq
      clear hq hkk hn hq0 hne
      refine (try_any w1 b _ _ r ⟨r.b.drop k, r.e⟩ _ _ false hr hen hC fun B w2 h2 => text1_bad2 w2 kr kg kn kl b g n k r HLL.out hg ht (by omega) hk.2 (by omega) h2).mono ?_
      rintro e w2 ⟨rfl, hU⟩
      simp only [Bool.false_eq_true, if_false] at hU ⊢
      replace HM := Lib.hid (hS _ _ hU).unlist
      simp only [List.cons_append, List.nil_append] at HM
      replace HM := Lib.hid (HM.out.pick (r := txtX kr kg kn kl b g []) (by with_reducible repeat first | exact ph | apply pt)).openTX
      clear hU hS hC C hen hmf
      clear hr hk ht hn2
      have fM := HM.out.fa
      go_wp2_with fail
      all_goals clear fM
      refine nxt HM fun w3 M => ?_
      clear HM; have HM := M; clear M
      obtain ⟨Ahb, hb⟩ := HM.out.get (r := cellsR kn 9 [.string (bs [])]) (by with_reducible repeat first | exact ph | apply pt)
      have hc := hb.2.reads.1
      rw [HQ.out]
      refine bodyPost_ret (v := .tuple #[.string (bs []), .int .i64 _]) (by simp [results, Tryz.results131, go_sem, hc]; try rfl) rfl ⟨rfl, ?_⟩
      exact (HM.out.pick (r := readerR b Rdr.bad) (by with_reducible repeat first | exact ph | apply pt)).upd
  · have hq : r.txt g = (Rdr.bad, [], 120) := by unfold Rdr.txt Rdr.num; rw [if_neg hne, if_neg hg, if_neg hk]; rfl
    have HQ := Lib.hid hq
    clear hq hne
    refine (try_any w1 b _ _ r r _ _ false hr hen hC fun B w2 h2 => text1_bad w2 kr kg kn kl b g r HLL.out hg hk h2).mono ?_
    rintro e w2 ⟨rfl, hU⟩
    simp only [Bool.false_eq_true, if_false] at hU ⊢
    replace HM := Lib.hid (hS _ _ hU).unlist
    simp only [List.cons_append, List.nil_append] at HM
    replace HM := Lib.hid (HM.out.pick (r := txtX kr kg kn kl b g []) (by with_reducible repeat first | exact ph | apply pt)).openTX
    clear hU hS hC C hen hmf
    clear hr hk
    have fM := HM.out.fa
    go_wp2_with fail
    all_goals clear fM
    refine nxt HM fun w3 M => ?_
    clear HM; have HM := M; clear M
    obtain ⟨Ahb, hb⟩ := HM.out.get (r := cellsR kn 9 [.string (bs [])]) (by with_reducible repeat first | exact ph | apply pt)
    have hc := hb.2.reads.1
    rw [HQ.out]
    refine bodyPost_ret (v := .tuple #[.string (bs []), .int .i64 _]) (by simp [results, Tryz.results131, go_sem, hc]; try rfl) rfl ⟨rfl, ?_⟩
    exact (HM.out.pick (r := readerR b Rdr.bad) (by with_reducible repeat first | exact ph | apply pt)).upd
end Go.Proofs.YtcfgnbbiljohjaaGreatDoor
end
section
/- The program's reader: a truth, the end; a reader of bytes. Condition: it lies as 'readerR' says. -/
set_option linter.unusedVariables false
set_option linter.unusedSimpArgs false
set_option maxHeartbeats 2000000
set_option maxRecDepth 10000
namespace Go.Proofs.YtcfgnbbiljohjaaGreatDoor
open Go.RowKit
def truX (kr ki b : Nat) (x : Bool) : Res := listR [cellsR kr 81 [.pointer (some ⟨b, 0, none⟩)], cellsR ki 4 [.bool x]]
theorem Mem.shutUX {F : Nat → Prop} {w0 w : World} {L : List Res} {kr ki b : Nat} {x : Bool} (h : Mem F w0 w (cellsR kr 81 [.pointer (some ⟨b, 0, none⟩)] :: cellsR ki 4 [.bool x] :: L)) : Mem F w0 w (truX kr ki b x :: L) :=
  Mem.list' (L1 := [cellsR kr 81 [.pointer (some ⟨b, 0, none⟩)], cellsR ki 4 [.bool x]]) h
theorem Mem.openUX {F : Nat → Prop} {w0 w : World} {L : List Res} {kr ki b : Nat} {x : Bool} (h : Mem F w0 w (truX kr ki b x :: L)) : Mem F w0 w (cellsR kr 81 [.pointer (some ⟨b, 0, none⟩)] :: cellsR ki 4 [.bool x] :: L) :=
  Mem.unlist (L1 := [cellsR kr 81 [.pointer (some ⟨b, 0, none⟩)], cellsR ki 4 [.bool x]]) h
theorem truth1_nil {B : Nat → Prop} (w : World) (kr ki b : Nat) (r : Rdr) (hl : r.b.length ≤ 70368744177664) (hn : r.b = []) (h : SepL [readerR b r, truX kr ki b false] B w) :
    Calls Tryz.prog 139 #[.pointer (some ⟨kr, 0, none⟩), .pointer (some ⟨ki, 0, none⟩)] w fun e w' => e = (if false = true then .returned (.tuple #[]) else brokenE) ∧ Upd B w w' (listR [readerR b r, truX kr ki b false]) := by
  have HN := Lib.hid hn
  clear hn
  have HLL := Lib.hid hl
  have HM := Lib.hid (Mem.start (F := B) (r := listR [readerR b r, truX kr ki b false]) h).unlist
  simp only [List.cons_append, List.nil_append] at HM
  replace HM := Lib.hid (HM.out.pick (r := truX kr ki b false) (by with_reducible repeat first | exact ph | apply pt)).openUX
  clear h hl
  go_enter Tryz.func139, Tryz.ntmps139
  have fM := HM.out.fa
  go_wp2_with fail
  all_goals clear fM
  obtain ⟨AhC, hC⟩ := HM.out.get (r := readerR b r) (by with_reducible repeat first | exact ph | apply pt)
  refine (ltake_bad w b 1 r HLL.out (by rw [HN.out]; decide) hC).mono ?_
  rintro e w' ⟨rfl, hwq⟩
  rw [hwq]
  clear hwq w' hC
  simp only [brokenE]
  go_wp2_with fail
  refine ⟨rfl, rfl, ?_⟩
  exact (Mem.list' (L1 := [readerR b r, truX kr ki b false]) (L := []) (Mem.sub (Mem.shutUX (kr := kr) (ki := ki) (b := b) (x := false) (L := [readerR b r]) (Mem.sub HM.out (by repeat first | exact Sub.nil | refine Sub.cons (by with_reducible repeat first | exact ph | apply pt) ?_))) (by repeat first | exact Sub.nil | refine Sub.cons (by with_reducible repeat first | exact ph | apply pt) ?_))).upd
theorem truth1_ok {B : Nat → Prop} (w : World) (kr ki b : Nat) (c : UInt8) (l : List UInt8) (z : Int) (hl : (c :: l).length ≤ 70368744177664) (hc : c.toNat ≤ 1) (h : SepL [readerR b ⟨c :: l, z⟩, truX kr ki b false] B w) :
    Calls Tryz.prog 139 #[.pointer (some ⟨kr, 0, none⟩), .pointer (some ⟨ki, 0, none⟩)] w fun e w' => e = (if true = true then .returned (.tuple #[]) else brokenE) ∧ Upd B w w' (listR [readerR b ⟨l, z⟩, truX kr ki b (c.toNat == 1)]) := by
  obtain ⟨r, hr⟩ : ∃ r : Rdr, ⟨c :: l, z⟩ = r := ⟨_, rfl⟩
  have HR := Lib.hid hr
  rw [show (c :: l).length = r.b.length by rw [← hr]] at hl
  rw [hr] at h
  clear hr
  have hc1 : ((c.toNat : Int) ≤ 1) := by omega
  have hcc : ((c.toNat : Int) == 1) = (c.toNat == 1) := by rw [Bool.eq_iff_iff]; simp; omega
  have HLL := Lib.hid hl
  have HM := Lib.hid (Mem.start (F := B) (r := listR [readerR b r, truX kr ki b false]) h).unlist
  simp only [List.cons_append, List.nil_append] at HM
  replace HM := Lib.hid (HM.out.pick (r := truX kr ki b false) (by with_reducible repeat first | exact ph | apply pt)).openUX
  clear h hl
  go_enter Tryz.func139, Tryz.ntmps139
  have fM := HM.out.fa
  go_wp2_with fail
  all_goals clear fM
  obtain ⟨C, hC, hS⟩ := (HM.out.pick (r := readerR b r) (by with_reducible repeat first | exact ph | apply pt)).step
  refine (ltake_ok w b 1 r HLL.out (by rw [← HR.out]; simp) hC).mono ?_
  rintro e w2 ⟨⟨a1, c1, B1, rfl, hb1⟩, hU⟩
  rw [← HR.out] at hb1 hU
  replace HM := Lib.hid (hS (readerR b ⟨l, z⟩) _ hU)
  obtain ⟨g, o, rfl, -, hg, hcl⟩ := Bytes.at (l := [c]) hb1 0 (by simp)
  have hcl' : w2.cell? ⟨g, o, none⟩ = some (.int .u8 (c.toNat : Int)) := hcl
  clear hU hS hC hb1 hcl
  have fM := HM.out.fa
  go_wp2_with fail
  all_goals clear fM
  refine (wmust_any _ _).mono ?_
  rintro e w' ⟨rfl, hwq⟩
  rw [hwq]
  clear hwq w'
  try rw [decide_eq_true hc1]
  simp only [if_true]
  have fM := HM.out.fa
  go_wp2_with fail
  all_goals clear fM
  refine nxt HM fun w3 M => ?_
  clear HM; have HM := M; clear M
  go_end0
  refine ⟨by simp, ?_⟩
  exact (Mem.list' (L1 := [readerR b ⟨l, z⟩, truX kr ki b (c.toNat == 1)]) (L := []) (Mem.sub (Mem.shutUX (kr := kr) (ki := ki) (b := b) (x := (c.toNat == 1)) (L := [readerR b ⟨l, z⟩]) (Mem.sub HM.out (by repeat first | exact Sub.nil | refine Sub.cons (by with_reducible repeat first | exact ph | apply pt) ?_))) (by repeat first | exact Sub.nil | refine Sub.cons (by with_reducible repeat first | exact ph | apply pt) ?_))).upd
theorem truth1_bad {B : Nat → Prop} (w : World) (kr ki b : Nat) (c : UInt8) (l : List UInt8) (z : Int) (hl : (c :: l).length ≤ 70368744177664) (hc : ¬ c.toNat ≤ 1) (h : SepL [readerR b ⟨c :: l, z⟩, truX kr ki b false] B w) :
    Calls Tryz.prog 139 #[.pointer (some ⟨kr, 0, none⟩), .pointer (some ⟨ki, 0, none⟩)] w fun e w' => e = (if false = true then .returned (.tuple #[]) else brokenE) ∧ Upd B w w' (listR [readerR b ⟨l, z⟩, truX kr ki b false]) := by
  obtain ⟨r, hr⟩ : ∃ r : Rdr, ⟨c :: l, z⟩ = r := ⟨_, rfl⟩
  have HR := Lib.hid hr
  rw [show (c :: l).length = r.b.length by rw [← hr]] at hl
  rw [hr] at h
  clear hr
  have hc1 : ¬ ((c.toNat : Int) ≤ 1) := by omega
  have HLL := Lib.hid hl
  have HM := Lib.hid (Mem.start (F := B) (r := listR [readerR b r, truX kr ki b false]) h).unlist
  simp only [List.cons_append, List.nil_append] at HM
  replace HM := Lib.hid (HM.out.pick (r := truX kr ki b false) (by with_reducible repeat first | exact ph | apply pt)).openUX
  clear h hl
  go_enter Tryz.func139, Tryz.ntmps139
  have fM := HM.out.fa
  go_wp2_with fail
  all_goals clear fM
  obtain ⟨C, hC, hS⟩ := (HM.out.pick (r := readerR b r) (by with_reducible repeat first | exact ph | apply pt)).step
  refine (ltake_ok w b 1 r HLL.out (by rw [← HR.out]; simp) hC).mono ?_
  rintro e w2 ⟨⟨a1, c1, B1, rfl, hb1⟩, hU⟩
  rw [← HR.out] at hb1 hU
  replace HM := Lib.hid (hS (readerR b ⟨l, z⟩) _ hU)
  obtain ⟨g, o, rfl, -, hg, hcl⟩ := Bytes.at (l := [c]) hb1 0 (by simp)
  have hcl' : w2.cell? ⟨g, o, none⟩ = some (.int .u8 (c.toNat : Int)) := hcl
  clear hU hS hC hb1 hcl
  have fM := HM.out.fa
  go_wp2_with fail
  all_goals clear fM
  refine (wmust_any _ _).mono ?_
  rintro e w' ⟨rfl, hwq⟩
  rw [hwq]
  clear hwq w'
  try rw [decide_eq_false (show ¬ ((c.toNat : Int) ≤ 1) by omega)]
  simp only [Bool.false_eq_true, if_false, brokenE]
  go_wp2_with fail
  refine ⟨rfl, rfl, ?_⟩
  exact (Mem.list' (L1 := [readerR b ⟨l, z⟩, truX kr ki b false]) (L := []) (Mem.sub (Mem.shutUX (kr := kr) (ki := ki) (b := b) (x := false) (L := [readerR b ⟨l, z⟩]) (Mem.sub HM.out (by repeat first | exact Sub.nil | refine Sub.cons (by with_reducible repeat first | exact ph | apply pt) ?_))) (by repeat first | exact Sub.nil | refine Sub.cons (by with_reducible repeat first | exact ph | apply pt) ?_))).upd
theorem rtruth_any {A : Nat → Prop} (w : World) (b : Nat) (r : Rdr) (hl : r.b.length ≤ 70368744177664) (h : (readerR b r).p A w) :
    Calls Tryz.prog 115 #[.pointer (some ⟨b, 0, none⟩)] w fun e w' => e = .returned (.tuple #[.bool r.tru.2.1, .int .i64 r.tru.2.2]) ∧ Upd A w w' (readerR b r.tru.1) := by
  have hmf : ∀ (fn : Fn) (first cap : Array Value) (w : World), (Instr.makeFunc fn first cap).run Tryz.prog w = .ok (.func fn first cap) w := fun _ _ _ _ => rfl
  have HM := Lib.hid (Mem.start (r := readerR b r) h)
  have HLL := Lib.hid hl
  clear h hl
  go_enter Tryz.func115, Tryz.ntmps115
  have fM := HM.out.fa
  go_wp2_with fail
  all_goals clear fM
  refine nxt HM fun w1 M => ?_
  clear HM; have HM := M; clear M
  obtain ⟨kr, hkr⟩ : ∃ k, w.heap.size = k := ⟨_, rfl⟩
  obtain ⟨ki, hki⟩ : ∃ k, kr + 1 = k := ⟨_, rfl⟩
  rw [hkr, hki] at HM ⊢
  clear hkr hki
  have hen := enters_of (P := Tryz.prog) Tryz.func139 (by kernel_rfl) rfl
  replace HM := Lib.hid (Mem.list' (L1 := [readerR b r, truX kr ki b false]) (L := []) (Mem.sub (Mem.shutUX (kr := kr) (ki := ki) (b := b) (x := false) (L := [readerR b r]) (Mem.sub HM.out (by repeat first | exact Sub.nil | refine Sub.cons (by with_reducible repeat first | exact ph | apply pt) ?_))) (by repeat first | exact Sub.nil | refine Sub.cons (by with_reducible repeat first | exact ph | apply pt) ?_)))
  obtain ⟨C, hC, hS⟩ := HM.out.step
  by_cases hr : r.e = 0
  case neg =>
    have hq : r.tru = (r, false, r.e) := by unfold Rdr.tru; exact if_pos hr
    have HQ := Lib.hid hq
    clear hq
    refine (try_err w1 b r _ _ hr hC).mono ?_
    rintro e w2 ⟨rfl, hU⟩
    replace HM := Lib.hid (hS _ _ hU).unlist
    simp only [List.cons_append, List.nil_append] at HM
    replace HM := Lib.hid (HM.out.pick (r := truX kr ki b false) (by with_reducible repeat first | exact ph | apply pt)).openUX
    clear hU hS hC C hen hmf
    have fM := HM.out.fa
    go_wp2_with fail
    all_goals clear fM
    refine nxt HM fun w3 M => ?_
    clear HM; have HM := M; clear M
    obtain ⟨Ahb, hb⟩ := HM.out.get (r := cellsR ki 4 [.bool false]) (by with_reducible repeat first | exact ph | apply pt)
    have hcc := hb.2.reads.1
    rw [HQ.out]
    refine bodyPost_ret (v := .tuple #[.bool false, .int .i64 _]) (by simp [results, Tryz.results115, go_sem, hcc]; try rfl) rfl ⟨rfl, ?_⟩
    exact (HM.out.pick (r := readerR b r) (by with_reducible repeat first | exact ph | apply pt)).upd
  have hne : ¬ r.e ≠ 0 := by simpa using hr
  obtain ⟨l, z⟩ := r
  have hz : z = 0 := hr
  subst hz
  cases l with
  | nil =>
    have hq : Rdr.tru ⟨[], 0⟩ = (Rdr.bad, false, 120) := rfl
    have HQ := Lib.hid hq
    clear hq
    refine (try_any w1 b _ _ ⟨[], 0⟩ ⟨[], 0⟩ _ _ false rfl hen hC fun B w2 h2 => truth1_nil w2 kr ki b ⟨[], 0⟩ HLL.out rfl h2).mono ?_
    rintro e w2 ⟨rfl, hU⟩
    simp only [Bool.false_eq_true, if_false] at hU ⊢
    replace HM := Lib.hid (hS _ _ hU).unlist
    simp only [List.cons_append, List.nil_append] at HM
    replace HM := Lib.hid (HM.out.pick (r := truX kr ki b false) (by with_reducible repeat first | exact ph | apply pt)).openUX
    clear hU hS hC C hen hmf
    have fM := HM.out.fa
    go_wp2_with fail
    all_goals clear fM
    refine nxt HM fun w3 M => ?_
    clear HM; have HM := M; clear M
    obtain ⟨Ahb, hb⟩ := HM.out.get (r := cellsR ki 4 [.bool false]) (by with_reducible repeat first | exact ph | apply pt)
    have hcc := hb.2.reads.1
    rw [HQ.out]
    refine bodyPost_ret (v := .tuple #[.bool false, .int .i64 _]) (by simp [results, Tryz.results115, go_sem, hcc]; try rfl) rfl ⟨rfl, ?_⟩
    exact (HM.out.pick (r := readerR b Rdr.bad) (by with_reducible repeat first | exact ph | apply pt)).upd
  | cons c l =>
    by_cases hc : c.toNat ≤ 1
    · have hq : Rdr.tru ⟨c :: l, 0⟩ = (⟨l, 0⟩, c.toNat == 1, 0) := by
        unfold Rdr.tru
        exact (if_neg (by simp)).trans (if_pos hc)
      have HQ := Lib.hid hq
      clear hq
      refine (try_any w1 b _ _ ⟨c :: l, 0⟩ ⟨l, 0⟩ _ _ true rfl hen hC fun B w2 h2 => truth1_ok w2 kr ki b c l 0 HLL.out hc h2).mono ?_
      rintro e w2 ⟨rfl, hU⟩
      simp only [if_true] at hU ⊢
      replace HM := Lib.hid (hS _ _ hU).unlist
      simp only [List.cons_append, List.nil_append] at HM
      replace HM := Lib.hid (HM.out.pick (r := truX kr ki b (c.toNat == 1)) (by with_reducible repeat first | exact ph | apply pt)).openUX
      clear hU hS hC C hen hmf
      have fM := HM.out.fa
      go_wp2_with fail
      all_goals clear fM
      refine nxt HM fun w3 M => ?_
      clear HM; have HM := M; clear M
      obtain ⟨Ahb, hb⟩ := HM.out.get (r := cellsR ki 4 [.bool (c.toNat == 1)]) (by with_reducible repeat first | exact ph | apply pt)
      have hcc := hb.2.reads.1
      rw [HQ.out]
      refine bodyPost_ret (v := .tuple #[.bool (c.toNat == 1), .int .i64 _]) (by simp [results, Tryz.results115, go_sem, hcc]; try rfl) rfl ⟨rfl, ?_⟩
      exact (HM.out.pick (r := readerR b ⟨l, 0⟩) (by with_reducible repeat first | exact ph | apply pt)).upd
    · have hq : Rdr.tru ⟨c :: l, 0⟩ = (Rdr.bad, false, 120) := by
        unfold Rdr.tru
        exact (if_neg (by simp)).trans (if_neg hc)
      have HQ := Lib.hid hq
      clear hq
      refine (try_any w1 b _ _ ⟨c :: l, 0⟩ ⟨l, 0⟩ _ _ false rfl hen hC fun B w2 h2 => truth1_bad w2 kr ki b c l 0 HLL.out hc h2).mono ?_
      rintro e w2 ⟨rfl, hU⟩
      simp only [Bool.false_eq_true, if_false] at hU ⊢
      replace HM := Lib.hid (hS _ _ hU).unlist
      simp only [List.cons_append, List.nil_append] at HM
      replace HM := Lib.hid (HM.out.pick (r := truX kr ki b false) (by with_reducible repeat first | exact ph | apply pt)).openUX
      clear hU hS hC C hen hmf
      have fM := HM.out.fa
      go_wp2_with fail
      all_goals clear fM
      refine nxt HM fun w3 M => ?_
      clear HM; have HM := M; clear M
      obtain ⟨Ahb, hb⟩ := HM.out.get (r := cellsR ki 4 [.bool false]) (by with_reducible repeat first | exact ph | apply pt)
      have hcc := hb.2.reads.1
      rw [HQ.out]
      refine bodyPost_ret (v := .tuple #[.bool false, .int .i64 _]) (by simp [results, Tryz.results115, go_sem, hcc]; try rfl) rfl ⟨rfl, ?_⟩
      exact (HM.out.pick (r := readerR b Rdr.bad) (by with_reducible repeat first | exact ph | apply pt)).upd
theorem end1_any {B : Nat → Prop} (w : World) (kr b : Nat) (l : List UInt8) (z : Int) (hl : l.length ≤ 70368744177664) (h : SepL [readerR b ⟨l, z⟩, cellsR kr 81 [.pointer (some ⟨b, 0, none⟩)]] B w) :
    Calls Tryz.prog 73 #[.pointer (some ⟨kr, 0, none⟩)] w fun e w' => e = (if decide (l = []) then .returned (.tuple #[]) else brokenE) ∧ Upd B w w' (listR [readerR b ⟨l, z⟩, cellsR kr 81 [.pointer (some ⟨b, 0, none⟩)]]) := by
  have hd : ((l.length : Int) == 0) = decide (l = []) := by
    cases l <;> simp
    omega
  by_cases hln : l = []
  · have HD := Lib.hid (show ((l.length : Int) == 0) = true by rw [hd]; exact decide_eq_true hln)
    rw [decide_eq_true hln]
    have hl0 : (l.length : Int) = 0 := by rw [hln]; rfl
    clear hd hln
    have HLL := Lib.hid hl
    have HM := Lib.hid (Mem.start (F := B) (r := listR [readerR b ⟨l, z⟩, cellsR kr 81 [.pointer (some ⟨b, 0, none⟩)]]) h).unlist
    simp only [List.cons_append, List.nil_append] at HM
    obtain ⟨a, c, hm⟩ := HM.out.openR
    replace HM := Lib.hid hm
    clear h hl hm
    go_enter Tryz.func73, Tryz.ntmps73
    have fM := HM.out.fa
    go_wp2_with fail
    all_goals clear fM
    refine (wmust_any _ _).mono ?_
    rintro e w' ⟨rfl, hwq⟩
    rw [hwq]
    clear hwq w'
    try rw [HD.out]
    simp only [if_true]
    go_wp2_with fail
    go_end0
    refine ⟨by simp, ?_⟩
    exact (Mem.list' (L1 := [readerR b ⟨l, z⟩, cellsR kr 81 [.pointer (some ⟨b, 0, none⟩)]]) (L := []) (Mem.shutR HM.out)).upd
  · have HD := Lib.hid (show ((l.length : Int) == 0) = false by rw [hd]; exact decide_eq_false hln)
    rw [decide_eq_false hln]
    have hl0 : ¬ (l.length : Int) = 0 := by have := HD.out; simpa using hln
    clear hd hln
    have HLL := Lib.hid hl
    have HM := Lib.hid (Mem.start (F := B) (r := listR [readerR b ⟨l, z⟩, cellsR kr 81 [.pointer (some ⟨b, 0, none⟩)]]) h).unlist
    simp only [List.cons_append, List.nil_append] at HM
    obtain ⟨a, c, hm⟩ := HM.out.openR
    replace HM := Lib.hid hm
    clear h hl hm
    go_enter Tryz.func73, Tryz.ntmps73
    have fM := HM.out.fa
    go_wp2_with fail
    all_goals clear fM
    refine (wmust_any _ _).mono ?_
    rintro e w' ⟨rfl, hwq⟩
    rw [hwq]
    clear hwq w'
    try rw [HD.out]
    simp only [Bool.false_eq_true, if_false, brokenE]
    go_wp2_with fail
    refine ⟨rfl, rfl, ?_⟩
    exact (Mem.list' (L1 := [readerR b ⟨l, z⟩, cellsR kr 81 [.pointer (some ⟨b, 0, none⟩)]]) (L := []) (Mem.shutR HM.out)).upd
theorem rend_any {A : Nat → Prop} (w : World) (b : Nat) (r : Rdr) (hl : r.b.length ≤ 70368744177664) (h : (readerR b r).p A w) :
    Calls Tryz.prog 40 #[.pointer (some ⟨b, 0, none⟩)] w fun e w' => e = .returned (.int .i64 r.fin.2) ∧ Upd A w w' (readerR b r.fin.1) := by
  have hmf : ∀ (fn : Fn) (first cap : Array Value) (w : World), (Instr.makeFunc fn first cap).run Tryz.prog w = .ok (.func fn first cap) w := fun _ _ _ _ => rfl
  have HM := Lib.hid (Mem.start (r := readerR b r) h)
  have HLL := Lib.hid hl
  clear h hl
  go_enter Tryz.func40, Tryz.ntmps40
  have fM := HM.out.fa
  go_wp2_with fail
  all_goals clear fM
  refine nxt HM fun w1 M => ?_
  clear HM; have HM := M; clear M
  obtain ⟨kr, hkr⟩ : ∃ k, w.heap.size = k := ⟨_, rfl⟩
  rw [hkr] at HM ⊢
  clear hkr
  have hen := enters_of (P := Tryz.prog) Tryz.func73 (by kernel_rfl) rfl
  replace HM := Lib.hid (Mem.list' (L1 := [readerR b r, cellsR kr 81 [.pointer (some ⟨b, 0, none⟩)]]) (L := []) (Mem.sub HM.out (by repeat first | exact Sub.nil | refine Sub.cons (by with_reducible repeat first | exact ph | apply pt) ?_)))
  obtain ⟨C, hC, hS⟩ := HM.out.step
  by_cases hr : r.e = 0
  case neg =>
    have hq : r.fin = (r, r.e) := by unfold Rdr.fin; exact if_pos hr
    have HQ := Lib.hid hq
    clear hq
    refine (try_err w1 b r _ _ hr hC).mono ?_
    rintro e w2 ⟨rfl, hU⟩
    replace HM := Lib.hid (hS _ _ hU).unlist
    simp only [List.cons_append, List.nil_append] at HM
    clear hU hS hC C hen hmf
    go_wp2_with fail
    go_ret
    rw [HQ.out]
    exact ⟨rfl, (Mem.pick HM.out (r := readerR b r) (by with_reducible exact ph)).upd⟩
  obtain ⟨l, z⟩ := r
  have hz : z = 0 := hr
  subst hz
  refine (try_any w1 b _ _ ⟨l, 0⟩ ⟨l, 0⟩ _ _ (decide (l = [])) rfl hen hC fun B w2 h2 => end1_any w2 kr b l 0 HLL.out h2).mono ?_
  rintro e w2 ⟨rfl, hU⟩
  replace HM := Lib.hid (hS _ _ hU).unlist
  clear hU hS hC C hen hmf
  by_cases hln : l = []
  · have hq : Rdr.fin ⟨l, 0⟩ = (⟨l, 0⟩, 0) := by unfold Rdr.fin; exact (if_neg (by simp)).trans (if_pos hln)
    have HQ := Lib.hid hq
    rw [decide_eq_true hln] at HM ⊢
    simp only [if_true, List.cons_append, List.nil_append] at HM ⊢
    clear hq hr hln
    go_wp2_with fail
    go_ret
    rw [HQ.out]
    exact ⟨rfl, (Mem.pick HM.out (r := readerR b ⟨l, 0⟩) (by with_reducible exact ph)).upd⟩
  · have hq : Rdr.fin ⟨l, 0⟩ = (Rdr.bad, 120) := by unfold Rdr.fin; exact (if_neg (by simp)).trans (if_neg hln)
    have HQ := Lib.hid hq
    rw [decide_eq_false hln] at HM ⊢
    simp only [Bool.false_eq_true, if_false, List.cons_append, List.nil_append] at HM ⊢
    clear hq hr hln
    go_wp2_with fail
    go_ret
    rw [HQ.out]
    exact ⟨rfl, (Mem.pick HM.out (r := readerR b Rdr.bad) (by with_reducible exact ph)).upd⟩
theorem read_any {A : Nat → Prop} (w : World) (v : Value) (l : List UInt8) (h : Bytes w A v l) (hl : l.length ≤ 70368744177664) :
    Calls Tryz.prog 37 #[v] w fun e w' => ∃ b, e = .returned (.pointer (some ⟨b, 0, none⟩)) ∧ Upd NoB w w' (readerR b ⟨l, 0⟩) := by
  have HM := Lib.hid (Mem.start0 w)
  have HB := Lib.hid h
  clear h
  go_enter Tryz.func37, Tryz.ntmps37
  go_wp2_with fail
  refine (clone_bytes w v l HB.out hl).mono ?_
  rintro e w2 ⟨v2, rfl, hw, hE⟩
  have hm := HM.out.bytNew hE hw
  obtain ⟨a, c, rfl⟩ := hm.fact (fun A h => bytR.len h)
  replace HM := Lib.hid (hm.turn (r' := readR (.slice a l.length c) l) fun A hA => ⟨bytR.bytes hA, bytR.lt hA⟩)
  clear hm hw hE
  have fM := HM.out.fa
  go_wp2_with fail
  all_goals clear fM
  go_ret
  refine ⟨_, rfl, ?_⟩
  refine nxt HM fun w3 M => ?_
  clear HM; have HM := M; clear M
  exact (Mem.shutR (L := []) (Mem.sub HM.out (by repeat first | exact Sub.nil | refine Sub.cons (by with_reducible repeat first | exact ph | apply pt) ?_))).upd
end Go.Proofs.YtcfgnbbiljohjaaGreatDoor
end
section
/- The document's numbers, texts, truths and frames on the wire. Conditions: bytes lie as 'Bytes' says, at most 2^40 of them. -/
set_option linter.unusedVariables false
set_option linter.unusedSimpArgs false
set_option maxHeartbeats 1000000
set_option maxRecDepth 10000
namespace Go.Proofs.YtcfgnbbiljohjaaGreatDoor
open Go.RowKit

theorem rtake_any {A : Nat → Prop} (w : World) (v : Value) (l : List UInt8) (hl : l.length ≤ 70368744177664) (h : Bytes w A v l) :
    Calls Tryz.prog 80 #[v] w fun e w' => e = .returned (.tuple #[.int .i64 ((takeL l).1 : Int), .int .i64 (takeL l).2]) ∧ w' = w := by
  obtain ⟨a, c, rfl⟩ := h.len
  have HB := Lib.hid h
  clear h
  go_enter Tryz.func80, Tryz.ntmps80
  go_wp2_with fail
  go_loopw [4, 5, 6] (fun x u i wr => ∃ j N U : Nat, j ≤ l.length ∧ j ≤ 9 ∧ i = .int .i64 j ∧ x = .int .i64 N ∧ u = .int .i64 U ∧ Hid (U = 128 ^ (min j 8)) ∧ Hid (takeL l = takeG j N (l.drop j)) ∧ Hid (N < 128 ^ j) ∧ wr = w) (fun _ _ i _ => l.length - (intOf i).toNat)
  case atStart => exact ⟨0, 0, 1, Nat.zero_le _, Nat.zero_le _, rfl, rfl, rfl, Lib.hid rfl, Lib.hid rfl, Lib.hid (by decide), rfl⟩
  case round =>
    obtain ⟨j, N, U, hj, hj9, rfl, rfl, rfl, HU, HT, HP, rfl⟩ := hrel
    by_cases hlt : j < l.length
    · have g1 : (j : Int) < l.length := by omega
      have g2 : ¬ (j : Int) < 0 := by omega
      obtain ⟨g, o, rfl, -, hg, hc⟩ := HB.out.at j hlt
      replace HT := Lib.hid (show takeL l = takeG j N (l[j] :: l.drop (j + 1)) by rw [HT.out, List.drop_eq_getElem_cons hlt])
      obtain ⟨x, hx⟩ : ∃ x, l[j] = x := ⟨_, rfl⟩
      rw [hx] at hc HT
      clear hx
      by_cases h9 : j = 9
      · subst h9
        rw [takeG_nine] at HT
        have hl9 : (9 : Int) ≤ l.length := by omega
        go_wp2_with fail
        go_ret2
        rw [HT.out]
        exact ⟨rfl, rfl⟩
      · have h9' : (j : Int) < 9 := by omega
        have h8 : j ≤ 8 := by omega
        have hxl := x.toNat_lt
        have hU8 : U = 128 ^ j := by rw [HU.out, Nat.min_eq_left h8]
        have hb9 : 128 ^ j ≤ 128 ^ 8 := Nat.pow_le_pow_right (by decide) h8
        obtain ⟨m, hm⟩ : ∃ m, x.toNat % 128 = m := ⟨_, rfl⟩
        have hml : m < 128 := by omega
        have hm' : (x.toNat : Int) % 128 = (m : Int) := by omega
        have hmy : m * 128 ^ j ≤ 127 * 128 ^ 8 := Nat.mul_le_mul (by omega) hb9
        have hyl : N + m * 128 ^ j < 9223372036854775808 := by have := HP.out; omega
        have HY := Lib.hid (show N + m * 128 ^ j < 128 ^ (j + 1) by
          have h1 := HP.out
          have h2 : m * 128 ^ j ≤ 127 * 128 ^ j := Nat.mul_le_mul_right _ (by omega)
          rw [Nat.pow_succ]; omega)
        rw [takeG_cons, if_neg h9, hm] at HT
        have hum : (U : Int) * (m : Int) = ((m * 128 ^ j : Nat) : Int) := by rw [hU8, Int.mul_comm]; simp
        obtain ⟨z, hz⟩ : ∃ z, m * 128 ^ j = z := ⟨_, rfl⟩
        rw [hz] at hum HY HT hyl
        obtain ⟨y, hy⟩ : ∃ y, N + z = y := ⟨_, rfl⟩
        rw [hy] at HY HT hyl
        have HUM := Lib.hid hum
        clear hum hmy
        have hnz : (N : Int) + (z : Int) = (y : Int) := by omega
        have HW2 := Lib.hid (show wrap64 ((N : Int) + (z : Int)) = (y : Int) by rw [hnz]; exact IntWalk.wrap64_in _ (by omega))
        have HW1 := Lib.hid (show wrap64 ((U : Int) * (m : Int)) = (z : Int) by rw [HUM.out]; exact IntWalk.wrap64_in _ (by omega))
        have HU7 := Lib.hid hU8
        have hum8 : j < 8 → wrap64 ((U : Int) * 128) = ((U * 128 : Nat) : Int) := fun h => by
          have h1 : 128 ^ j ≤ 72057594037927936 := Nat.pow_le_pow_right (by decide) (show j ≤ 8 by omega)
          rw [← hU8] at h1
          rw [show (U : Int) * 128 = ((U * 128 : Nat) : Int) by simp]
          have h2 : 128 ^ j ≤ 562949953421312 := Nat.pow_le_pow_right (by decide) (show j ≤ 7 by omega)
          rw [← hU8] at h2
          exact IntWalk.wrap64_in _ (by omega)
        have HU9 := Lib.hid hum8
        clear hb9 hyl hy hz HP hU8 HU hum8 hnz
        by_cases hx : x.toNat < 128
        case neg =>
          have hx' : ¬ (x.toNat : Int) < 128 := by omega
          rw [if_neg hx] at HT
          by_cases hj8 : j < 8
          · have hj8' : (j : Int) < 8 := by omega
            have hw3 : wrap64 ((U : Int) * 128) = ((U * 128 : Nat) : Int) := HU9.out hj8
            have hw1 := HW1.out
            have hw2 := HW2.out
            go_wp2_with fail
            clear hw1 hw2
            try clear hw3
            go_roundw
            case rel => exact ⟨j + 1, y, U * 128, by omega, by omega, by go_num, by first | rfl | rw [HW2.out], by first | rfl | rw [HU9.out hj8], Lib.hid (by rw [HU7.out, Nat.min_eq_left (by omega), Nat.pow_succ]), HT, HY, trivial⟩
            case measure => simp [intOf]; omega
          · have hj8' : ¬ (j : Int) < 8 := by omega
            have hw1 := HW1.out
            have hw2 := HW2.out
            go_wp2_with fail
            clear hw1 hw2
            try clear hw3
            go_roundw
            case rel => exact ⟨j + 1, y, U, by omega, by omega, by go_num, by first | rfl | rw [HW2.out], rfl, Lib.hid (by rw [HU7.out, show min (j + 1) 8 = 8 by omega, show j = 8 by omega]), HT, HY, trivial⟩
            case measure => simp [intOf]; omega
        have hx' : (x.toNat : Int) < 128 := by omega
        rw [if_pos hx] at HT
        have hmx : (m : Int) = (x.toNat : Int) := by omega
        clear hm
        by_cases hz : 0 < j ∧ x.toNat = 0
        · have hz1 : (0 : Int) < (j : Int) := by omega
          have hz2 : (x.toNat : Int) = 0 := by omega
          rw [if_pos (.inl hz)] at HT
          have hw1 := HW1.out
          have hw2 := HW2.out
          go_wp2_with fail
          go_ret2
          rw [HT.out]
          exact ⟨rfl, rfl⟩
        have HN1 := Lib.hid hz
        by_cases hj0 : 0 < j
        · have hz1 : (0 : Int) < (j : Int) := by omega
          have hz2 : ¬ (x.toNat : Int) = 0 := fun e => hz ⟨hj0, by omega⟩
          clear hz hj0 hmx
          by_cases ht : topN < y
          · have ht' : (4611686018427387904 : Int) < (y : Int) := by unfold topN at ht; omega
            rw [if_pos (.inr ht)] at HT
            clear ht
            have hw1 := HW1.out
            have hw2 := HW2.out
            go_wp2_with fail
            go_ret2
            rw [HT.out]
            exact ⟨rfl, rfl⟩
          · have ht' : ¬ (4611686018427387904 : Int) < (y : Int) := by unfold topN at ht; omega
            rw [if_neg (fun h => h.elim HN1.out ht)] at HT
            clear ht
            have hw1 := HW1.out
            have hw2 := HW2.out
            go_wp2_with fail
            go_ret2
            rw [HT.out]
            exact ⟨rfl, rfl⟩
        · have hz1 : ¬ (0 : Int) < (j : Int) := by omega
          clear hz hj0 hmx
          by_cases ht : topN < y
          · have ht' : (4611686018427387904 : Int) < (y : Int) := by unfold topN at ht; omega
            rw [if_pos (.inr ht)] at HT
            clear ht
            have hw1 := HW1.out
            have hw2 := HW2.out
            go_wp2_with fail
            go_ret2
            rw [HT.out]
            exact ⟨rfl, rfl⟩
          · have ht' : ¬ (4611686018427387904 : Int) < (y : Int) := by unfold topN at ht; omega
            rw [if_neg (fun h => h.elim HN1.out ht)] at HT
            clear ht
            have hw1 := HW1.out
            have hw2 := HW2.out
            go_wp2_with fail
            go_ret2
            rw [HT.out]
            exact ⟨rfl, rfl⟩
    · obtain rfl : j = l.length := by omega
      rw [List.drop_length] at HT
      by_cases h9 : 9 ≤ l.length
      · have h9' : (9 : Int) ≤ (l.length : Int) := by omega
        replace HT := Lib.hid (show takeL l = (0, -1) by rw [HT.out]; unfold takeG; rw [if_pos h9])
        go_wp2_with fail
        go_ret2
        rw [HT.out]
        exact ⟨rfl, rfl⟩
      · have h9' : ¬ (9 : Int) ≤ (l.length : Int) := by omega
        replace HT := Lib.hid (show takeL l = (0, 0) by rw [HT.out]; unfold takeG; rw [if_neg h9])
        go_wp2_with fail
        go_ret2
        rw [HT.out]
        exact ⟨rfl, rfl⟩
end Go.Proofs.YtcfgnbbiljohjaaGreatDoor
end
section
/- The document's bytes of numbers, texts, truths; its frame and the first frame of bytes. Conditions: bytes lie as 'Bytes' says. -/
set_option linter.unusedVariables false
set_option linter.unusedSimpArgs false
set_option maxHeartbeats 1000000
set_option maxRecDepth 10000
namespace Go.Proofs.YtcfgnbbiljohjaaGreatDoor
open Go.RowKit
theorem rnumL_any (w : World) (n : Nat) (hn : n < 9223372036854775808) :
    Calls Tryz.prog 70 #[.int .i64 (n : Int)] w fun e w' => ∃ v', e = .returned v' ∧ Upd NoB w w' (bytR v' (numL n)) := by
  have HM := Lib.hid (Mem.start0 w).bytNil
  have HNL := Lib.hid hn
  clear hn
  go_enter Tryz.func70, Tryz.ntmps70
  go_wp2_with fail
  go_loopw [3, 0] (fun x i wr => ∃ (m : Nat) (l1 : List UInt8) (a1 : Option Addr) (c1 : Nat), i = .int .i64 m ∧ x = .slice a1 l1.length c1 ∧ Hid (m < 9223372036854775808) ∧ Hid (numL n = l1 ++ numL m) ∧ Hid (Mem NoB w wr [bytR (.slice a1 l1.length c1) l1])) (fun _ i _ => (intOf i).toNat)
  case atStart => exact ⟨n, [], none, 0, rfl, rfl, HNL, Lib.hid rfl, HM⟩
  case round =>
    clear HM
    obtain ⟨m, l1, a1, c1, rfl, rfl, HML, HT, HM⟩ := hrel
    have hlen := congrArg List.length HT.out
    rw [List.length_append] at hlen
    have hl2 := numL_len n
    have HL1 := Lib.hid (show l1.length ≤ 10 by omega)
    clear hlen hl2
    by_cases hm : 128 ≤ m
    · have hm' : (128 : Int) ≤ (m : Int) := by omega
      have hst := numL_step HML.out
      rw [if_pos hm] at hst
      have hb : (128 + (m : Int) % 128) % 256 = 128 + (m : Int) % 128 := by omega
      have HWW := Lib.hid (show wrap64 ((m : Int) / 128) = (m : Int) / 128 from IntWalk.wrap64_in _ (by have := HML.out; omega))
      have HT' := Lib.hid (show numL n = (l1 ++ [UInt8.ofNat (m % 128 + 128)]) ++ numL (m / 128) by rw [HT.out, hst, List.append_assoc]; rfl)
      have HMM := Lib.hid hm
      clear hst hm HT
      go_wp2_with (at_builtin; refine standing ?_)
      refine nxt HM fun w1 M => ?_
      clear HM; have HM := M; clear M
      rw [show (128 + (m : Int) % 128) = (((m % 128 + 128) : Nat) : Int) by first | rfl | omega] at HM
      obtain ⟨Ahb, hb⟩ := HM.out.get (r := cellsR wr.heap.size 5 [.int .u8 (((m % 128 + 128) : Nat) : Int)]) (by with_reducible repeat first | exact ph | apply pt)
      replace HM := Lib.hid (HM.out.pick (r := bytR (.slice a1 l1.length c1) l1) (by with_reducible repeat first | exact ph | apply pt))
      obtain ⟨v8, w8, hr, hm9⟩ := Mem.bytAdd 30 HM.out _ _ (one_byte hb.2 (by omega)) (by have := HL1.out; simp; omega)
      obtain ⟨l2, hl2⟩ : ∃ l2, l1 ++ [UInt8.ofNat (m % 128 + 128)] = l2 := ⟨_, rfl⟩
      rw [hl2] at hm9
      have HL2 := Lib.hid hl2
      obtain ⟨a8, c8, rfl⟩ := hm9.fact (fun A h => bytR.len h)
      replace HM := Lib.hid hm9
      refine ⟨?_⟩
      refine wpList_append_ran rfl _ _ hr rfl rfl rfl ?_
      clear hr hm9 hb Ahb hl2
      replace HM := Lib.hid (Mem.sub HM.out (L' := [bytR (.slice a8 l2.length c8) l2]) (by repeat first | exact Sub.nil | refine Sub.cons (by with_reducible repeat first | exact ph | apply pt) ?_))
      rw [HL2.out] at HT'
      go_wp2_with fail
      rw [HWW.out]
      go_roundw
      case rel => exact ⟨m / 128, l2, a8, c8, by first | go_num | (rw [HWW.out]; go_num), rfl, Lib.hid (by have := HML.out; omega), HT', HM⟩
      case measure =>
        try rw [HWW.out]
        simp [intOf]; omega
    · have hm' : ¬ (128 : Int) ≤ (m : Int) := by omega
      have hst := numL_step HML.out
      rw [if_neg hm] at hst
      have hb : (m : Int) % 256 = m := by omega
      have HMM := Lib.hid (show m < 128 by omega)
      rw [hst] at HT
      clear hst hm
      go_wp2_with (at_builtin; refine standing ?_)
      refine nxt HM fun w1 M => ?_
      clear HM; have HM := M; clear M
      rw [show (m : Int) = ((m : Nat) : Int) by first | rfl | omega] at HM
      obtain ⟨Ahb, hb⟩ := HM.out.get (r := cellsR wr.heap.size 5 [.int .u8 ((m : Nat) : Int)]) (by with_reducible repeat first | exact ph | apply pt)
      replace HM := Lib.hid (HM.out.pick (r := bytR (.slice a1 l1.length c1) l1) (by with_reducible repeat first | exact ph | apply pt))
      obtain ⟨v8, w8, hr, hm9⟩ := Mem.bytAdd 30 HM.out _ _ (one_byte hb.2 (by have := HMM.out; omega)) (by have := HL1.out; simp; omega)
      obtain ⟨l2, hl2⟩ : ∃ l2, l1 ++ [UInt8.ofNat m] = l2 := ⟨_, rfl⟩
      rw [hl2] at hm9
      have HL2 := Lib.hid hl2
      obtain ⟨a8, c8, rfl⟩ := hm9.fact (fun A h => bytR.len h)
      replace HM := Lib.hid hm9
      refine ⟨?_⟩
      refine wpList_append_ran rfl _ _ hr rfl rfl rfl ?_
      clear hr hm9 hb Ahb hl2
      replace HM := Lib.hid (Mem.sub HM.out (L' := [bytR (.slice a8 l2.length c8) l2]) (by repeat first | exact Sub.nil | refine Sub.cons (by with_reducible repeat first | exact ph | apply pt) ?_))
      go_wp2_with fail
      go_ret
      rw [HT.out]
      have := HL2.out
      exact ⟨_, rfl, by rw [show l1 ++ [UInt8.ofNat m] = l2 from this]; exact HM.out.upd⟩
theorem rtruL_any (w : World) (t : Bool) :
    Calls Tryz.prog 45 #[.bool t] w fun e w' => ∃ v', e = .returned v' ∧ Upd NoB w w' (bytR v' (truL t)) := by
  have HM := Lib.hid (Mem.start0 w)
  cases t
  all_goals
    go_enter Tryz.func45, Tryz.ntmps45
    go_wp2_with fail
    refine nxt HM fun w1 M => ?_
    clear HM; have HM := M; clear M
    go_ret
  · exact ⟨_, rfl, (Mem.bytMade (l := truL false) HM.out (by decide)).upd⟩
  · exact ⟨_, rfl, (Mem.bytMade (l := truL true) HM.out (by decide)).upd⟩
theorem rtxtL_any (w : World) (s : List UInt8) (hs : s.length ≤ 1048576) :
    Calls Tryz.prog 46 #[.string (bs s)] w fun e w' => ∃ v', e = .returned v' ∧ Upd NoB w w' (bytR v' (txtL s)) := by
  have HM := Lib.hid (Mem.start0 w)
  have hsz : (bs s).size = s.length := bs_size s
  have HSL := Lib.hid hs
  go_enter Tryz.func46, Tryz.ntmps46
  go_wp2_with fail
  refine (rnumL_any w s.length (by omega)).mono ?_
  rintro e w2 ⟨v2, rfl, hU⟩
  obtain ⟨l2, hl2⟩ : ∃ l2, numL s.length = l2 := ⟨_, rfl⟩
  have HL2 := Lib.hid (show numL s.length = l2 ∧ l2.length ≤ 10 from ⟨hl2, by rw [← hl2]; exact (numL_len _).2⟩)
  rw [hl2] at hU
  obtain ⟨a2, c2, rfl⟩ : ∃ a2 c2, v2 = .slice a2 l2.length c2 := let ⟨_, h, _⟩ := hU; bytR.len h
  obtain ⟨F2, u1, u2, u3⟩ := hU
  replace HM := Lib.hid ((Mem.start0 w).new (r := bytR (.slice a2 l2.length c2) l2) (G := F2) u2 u1 (fun k hk => (u3 k hk).elim (fun h => (noB _ h).elim) id))
  obtain ⟨v3, w3, hcv, hb3, hE3, hs3⟩ := conv_bytes w2 s
  have HB3 := Lib.hid hb3
  replace HM := Lib.hid (HM.out.ext hE3)
  obtain ⟨a3, c3, rfl⟩ := hb3.len
  clear u1 u2 u3 F2 hl2 hb3 hE3 hs3
  go_wp2_with (at_builtin; refine standing ?_)
  obtain ⟨v8, w8, hr, hm9⟩ := Mem.bytAdd 30 HM.out _ _ HB3.out (by have := HL2.out; have := HSL.out; omega)
  replace HM := Lib.hid hm9
  refine ⟨?_⟩
  refine wpList_append_ran rfl _ _ hr rfl rfl rfl ?_
  clear hr hm9
  go_wp2_with fail
  go_ret
  unfold txtL
  rw [HL2.out.1]
  exact ⟨_, rfl, HM.out.upd⟩
theorem rframe_any {A : Nat → Prop} (w : World) (v : Value) (l : List UInt8) (h : Bytes w A v l) (hl : l.length ≤ 4096) :
    Calls Tryz.prog 35 #[v] w fun e w' => ∃ v', e = .returned v' ∧ Upd NoB w w' (bytR v' (frameL l)) := by
  have HB := Lib.hid h
  obtain ⟨a, c, rfl⟩ := h.len
  have HLL := Lib.hid hl
  clear h
  go_enter Tryz.func35, Tryz.ntmps35
  go_wp2_with fail
  refine (rseal_any w _ l (by omega) HB.out).mono ?_
  rintro e w2 ⟨v2, rfl, hU⟩
  obtain ⟨hb2, hE2⟩ := hU.byt
  have HB2 := Lib.hid hb2
  have HM := Lib.hid ((Mem.start0 w).ext hE2)
  obtain ⟨a2, c2, rfl⟩ := hb2.len
  rw [sealL_len]
  rw [sealL_len] at HB2
  clear hU hb2 hE2
  go_wp2_with fail
  rw [show ((l.length : Int) + 4) = ((l.length + 4 : Nat) : Int) from rfl]
  refine (rnumL_any w2 (l.length + 4) (by omega)).mono ?_
  rintro e w3 ⟨v3, rfl, hU⟩
  obtain ⟨l2, hl2⟩ : ∃ l2, numL (l.length + 4) = l2 := ⟨_, rfl⟩
  have HL2 := Lib.hid (show numL (l.length + 4) = l2 ∧ l2.length ≤ 10 from ⟨hl2, by rw [← hl2]; exact (numL_len _).2⟩)
  rw [hl2] at hU
  obtain ⟨a3, c3, rfl⟩ : ∃ a2 c2, v3 = .slice a2 l2.length c2 := let ⟨_, h, _⟩ := hU; bytR.len h
  obtain ⟨F2, u1, u2, u3⟩ := hU
  replace HM := Lib.hid (HM.out.new (r := bytR (.slice a3 l2.length c3) l2) (G := F2) u2 u1 (fun k hk => (u3 k hk).elim (fun h => (noB _ h).elim) id))
  replace HB2 := Lib.hid (HB2.out.ext u2)
  clear u1 u2 u3 F2 hl2
  go_wp2_with (at_builtin; refine standing ?_)
  obtain ⟨v8, w8, hr, hm9⟩ := Mem.bytAdd 30 HM.out _ _ HB2.out (by rw [sealL_len]; have := HL2.out; omega)
  replace HM := Lib.hid hm9
  refine ⟨?_⟩
  refine wpList_append_ran rfl _ _ hr rfl rfl rfl ?_
  clear hr hm9
  go_wp2_with fail
  go_ret
  unfold frameL
  rw [HL2.out.1]
  exact ⟨_, rfl, HM.out.upd⟩
end Go.Proofs.YtcfgnbbiljohjaaGreatDoor
end
section
/- The document's first frame of bytes, and its reader. Conditions: bytes lie as 'Bytes' says. -/
set_option linter.unusedVariables false
set_option linter.unusedSimpArgs false
set_option maxHeartbeats 4000000
set_option maxRecDepth 10000
namespace Go.Proofs.YtcfgnbbiljohjaaGreatDoor
open Go.RowKit
theorem rsplit_any {A : Nat → Prop} (w : World) (v : Value) (l : List UInt8) (h : Bytes w A v l) (hA : ∀ k, A k → k < w.heap.size) (hl : l.length ≤ 1099511627776) :
    Calls Tryz.prog 49 #[v] w fun e w' => splitE w w' l e ∧ Ext w w' := by
  obtain ⟨a, c, rfl⟩ := h.len
  have HM := Lib.hid (Mem.start0 w)
  have HB := Lib.hid h
  have HA := Lib.hid hA
  have HLL := Lib.hid hl
  have hcap := h.cap
  have hsp : splitL l = splitL l := rfl
  conv at hsp => rhs; unfold splitL
  have HS := Lib.hid hsp
  clear h hA hsp
  go_enter Tryz.func49, Tryz.ntmps49
  go_wp2_with fail
  refine (rtake_any w _ l (by omega) HB.out).mono ?_
  rintro e w' ⟨rfl, hwq⟩
  rw [hwq]
  clear hwq w'
  obtain ⟨hk1, hk2, hk3⟩ := takeL_k l
  obtain ⟨k, hk⟩ : ∃ k, (takeL l).2 = k := ⟨_, rfl⟩
  obtain ⟨m, hm⟩ : ∃ m, (takeL l).1 = m := ⟨_, rfl⟩
  have hm2 := takeL_le l
  rw [hk, hm] at HS ⊢
  rw [hk] at hk1 hk2 hk3
  rw [hm] at hm2
  clear hk hm
  by_cases h1 : k < 0
  · rw [if_neg (show ¬ k = 0 by omega), if_pos (.inl h1)] at HS
    go_wp2_with fail
    go_ret3
    exact ⟨splitE.nil HS.out, HM.out.extTo⟩
  by_cases h0 : k = 0
  · subst h0
    rw [if_pos rfl] at HS
    go_wp2_with fail
    go_ret3
    exact ⟨splitE.nil HS.out, HM.out.extTo⟩
  rw [if_neg h0] at HS
  have h0' : (k == 0) = false := by simpa using h0
  by_cases h2 : m < 4 ∨ 4100 < m
  · rw [if_pos (.inr h2)] at HS
    by_cases h4 : m < 4
    · have h4' : (m : Int) < 4 := by omega
      clear h2
      go_wp2_with fail
      go_ret3
      exact ⟨splitE.nil HS.out, HM.out.extTo⟩
    · have h4' : ¬ (m : Int) < 4 := by omega
      have h5' : (4100 : Int) < (m : Int) := by omega
      clear h2
      go_wp2_with fail
      go_ret3
      exact ⟨splitE.nil HS.out, HM.out.extTo⟩
  rw [if_neg (fun h => h.elim (fun h => absurd h1 (by omega)) h2)] at HS
  have h4' : ¬ (m : Int) < 4 := by omega
  have h5' : ¬ (4100 : Int) < (m : Int) := by omega
  clear h2
  obtain ⟨kn, rfl⟩ : ∃ kn : Nat, k = kn := ⟨k.toNat, by omega⟩
  rw [Int.toNat_natCast] at HS
  have hw1 : wrap64 ((l.length : Int) - (kn : Int)) = (l.length : Int) - (kn : Int) := IntWalk.wrap64_in _ (by omega)
  by_cases h3 : l.length < kn + m
  · rw [if_pos h3] at HS
    have h3' : (l.length : Int) - (kn : Int) < (m : Int) := by omega
    go_wp2_with fail
    go_ret3
    exact ⟨splitE.nil HS.out, HM.out.extTo⟩
  rw [if_neg h3] at HS
  have h3' : ¬ (l.length : Int) - (kn : Int) < (m : Int) := by omega
  obtain ⟨ed, hed⟩ : ∃ ed, kn + m = ed := ⟨_, rfl⟩
  have hed' : (kn : Int) + (m : Int) = (ed : Int) := by omega
  have hw2 : wrap64 ((kn : Int) + (m : Int)) = (ed : Int) := by rw [hed']; exact IntWalk.wrap64_in _ (by omega)
  have hsl := fun W => slice_lh W a l.length c kn ed (by omega) (by omega)
  have hb1 := HB.out.part kn ed (by omega) (by omega)
  have e0 : (l.take ed).drop kn = (l.drop kn).take m := by rw [List.drop_take]; congr 1; omega
  rw [e0] at hb1
  obtain ⟨a1, c1, e1⟩ := part_len (a := a) (i := kn) (j := ed) (c := c) (s := 1)
  rw [e1] at hsl hb1
  rw [show ed - kn = m by omega] at hsl hb1
  obtain ⟨q, hq⟩ : ∃ q, (l.drop kn).take m = q := ⟨_, rfl⟩
  rw [hq] at HS hb1
  have hql : q.length = m := by rw [← hq, List.length_take, List.length_drop]; omega
  rw [hed] at HS
  have HB1 := Lib.hid hb1
  have HQL := Lib.hid (show q.length ≤ 4100 by omega)
  clear hb1 hq e0 e1 hql hed
  go_wp2_with fail
  refine (ropen_any w _ q (by have := HQL.out; omega) HB1.out).mono ?_
  rintro e w2 ⟨⟨r, rfl, hr⟩, hE⟩
  have HE := Lib.hid hE
  unfold openE at hr
  cases ho : openL q with
  | none =>
    rw [ho] at hr HS
    have hr' : r = .tuple #[.slice none 0 0, .int .i64 110] := hr
    subst hr'
    clear hr ho
    go_wp2_with fail
    go_ret3
    exact ⟨splitE.nil HS.out, HE.out⟩
  | some x =>
    rw [ho] at hr HS
    obtain ⟨b, rfl, hb⟩ := hr
    have HX := Lib.hid hb
    clear hb ho
    go_wp2_with fail
    go_ret3
    refine ⟨?_, HE.out⟩
    unfold splitE
    rw [HS.out]
    exact ⟨_, rfl, HX.out⟩
/-- a reader of the document, as a value -/
def RdV (A : Nat → Prop) (w : World) (r : Rdr) (x : Value) : Prop := ∃ a c, x = .agg #[.slice a r.b.length c, .int .i64 r.e] ∧ Bytes w A (.slice a r.b.length c) r.b
theorem RdV.ext {A : Nat → Prop} {w w' : World} {r : Rdr} {x : Value} (h : RdV A w r x) (e : Ext w w') : RdV A w' r x := let ⟨a, c, h1, h2⟩ := h; ⟨a, c, h1, h2.ext e⟩
theorem Bytes.swap {A : Nat → Prop} {w0 w w' : World} {v : Value} {l : List UInt8} (h : Bytes w A v l) (hA : ∀ k, A k → k < w0.heap.size) (e : Ext w0 w) (e' : Ext w0 w') : Bytes w' A v l :=
  SlV.mono h (fun _ h => h) fun b o c hb hc => by
    unfold ByteAt at hc ⊢
    rw [e.reads.1 b o (hA b hb)] at hc
    rw [e'.reads.1 b o (hA b hb)]; exact hc
theorem RdV.swap {A : Nat → Prop} {w0 w w' : World} {r : Rdr} {x : Value} (h : RdV A w r x) (hA : ∀ k, A k → k < w0.heap.size) (e : Ext w0 w) (e' : Ext w0 w') : RdV A w' r x := let ⟨a, c, h1, h2⟩ := h; ⟨a, c, h1, h2.swap hA e e'⟩
theorem RdV.bad (A : Nat → Prop) (w : World) : RdV A w Rdr.bad (.agg #[.slice none 0 0, .int .i64 120]) := ⟨none, 0, rfl, SlV.nil⟩
theorem rfail_any (w : World) (v : Value) (e : Int) (hv : ∃ a n c, v = .slice a n c) : Calls Tryz.prog 76 #[.agg #[v, .int .i64 e]] w fun r w' => r = .returned (.tuple #[.agg #[.slice none 0 0, .int .i64 120], .int .i64 120]) ∧ Ext w w' := by
  obtain ⟨a, n, c, rfl⟩ := hv
  have HM := Lib.hid (Mem.start0 w)
  go_enter Tryz.func76, Tryz.ntmps76
  have fM := HM.out.fa
  go_wp2_with fail
  all_goals clear fM
  refine nxt HM fun w1 M => ?_
  clear HM; have HM := M; clear M
  obtain ⟨Ahb, hb⟩ := HM.out.get (r := cellsR (w.heap.size + 1) 89 [.slice none 0 0, .int .i64 120]) (by with_reducible repeat first | exact ph | apply pt)
  have hc := hb.2.reads.1
  refine bodyPost_ret (v := .tuple #[.agg #[.slice none 0 0, .int .i64 120], .int .i64 120]) (by simp [results, Tryz.results76, go_sem, hc]) rfl ⟨rfl, HM.out.extTo⟩
end Go.Proofs.YtcfgnbbiljohjaaGreatDoor
end
