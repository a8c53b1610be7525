/- Texts Rdr, Try, RdrN, RdrT, one behind the other. Conditions: as each says. -/
import Derived.Test.YtoadjbgpfihoiaaGreatDoorRaE
import Derived.Recover
import Derived.WalkLawsBesides
set_option linter.unusedVariables false
set_option linter.unusedSimpArgs false
set_option maxHeartbeats 8000000
set_option maxRecDepth 100000
namespace Go.Proofs.YtoadjbgpfihoiaaGreatDoor
open Go.RowKit
section
def listR (L : List Res) : Res := anyR (fun F w => SepL L F w) (fun h hk hs => h.keeps hk hs) (fun h => h.lt)
theorem Mem.unlist {F : Nat → Prop} {w0 w : World} {L L1 : List Res} (h : Mem F w0 w (listR L1 :: L)) : Mem F w0 w (L1 ++ L) := h.open fun A hA => ⟨A, hA, fun _ h => h⟩
theorem Mem.list' {F : Nat → Prop} {w0 w : World} {L L1 : List Res} (h : Mem F w0 w (L1 ++ L)) : Mem F w0 w (listR L1 :: L) := h.close fun _ hA => hA
def readR (v : Value) (l : List UInt8) : Res := anyR (fun F w => Bytes w F v l ∧ ∀ k, F k → k < w.heap.size)
 (fun h hk hs => ⟨h.1.keeps hk hs, fun k hF => Nat.lt_of_lt_of_le (h.2 k hF) hk.size⟩) (fun h => h.2)
theorem readR.len {A : Nat → Prop} {w : World} {v : Value} {l : List UInt8} (h : (readR v l).p A w) : ∃ a c, v = .slice a l.length c := h.1.len
def readerR (b : Nat) (r : Rdr) : Res := anyR (fun F w => ∃ v, SepL [cellsR b 327 [v, .int .i64 r.e, .bool true], readR v r.b] F w) (fun h hk hs => let ⟨v, h⟩ := h; ⟨v, h.keeps hk hs⟩) (fun h => let ⟨v, h⟩ := h; h.lt)
theorem Mem.openR {F : Nat → Prop} {w0 w : World} {L : List Res} {b : Nat} {r : Rdr} (h : Mem F w0 w (readerR b r :: L)) : ∃ a c, Mem F w0 w (cellsR b 327 [.slice a r.b.length c, .int .i64 r.e, .bool true] :: readR (.slice a r.b.length c) r.b :: L) := by
 obtain ⟨v, h2⟩ := h.openE (M := fun v => [cellsR b 327 [v, .int .i64 r.e, .bool true], readR v r.b]) fun A hA => let ⟨v, h⟩ := hA; ⟨v, A, h, fun _ h => h⟩
 obtain ⟨a, c, rfl⟩ := (h2.pick (.there .here)).fact fun A hA => readR.len hA
 exact ⟨a, c, h2⟩
theorem Mem.shutR {F : Nat → Prop} {w0 w : World} {L : List Res} {b : Nat} {v : Value} {l : List UInt8} {e : Int} (h : Mem F w0 w (cellsR b 327 [v, .int .i64 e, .bool true] :: readR v l :: L)) : Mem F w0 w (readerR b ⟨l, e⟩ :: L) :=
 h.close (L1 := [cellsR b 327 [v, .int .i64 e, .bool true], readR v l]) fun A hA => ⟨v, hA⟩
theorem Mem.part {F : Nat → Prop} {w0 w : World} {L : List Res} {a : Option Addr} {c : Nat} {l : List UInt8} (h : Mem F w0 w (readR (.slice a l.length c) l :: L)) (i j : Nat) (hij : i ≤ j) (hj : j ≤ l.length) : Mem F w0 w (readR (sliced a i j c 1) ((l.take j).drop i) :: L) :=
 h.turn fun A hA => ⟨hA.1.part i j hij hj, hA.2⟩
def brokenE : Ending := .panicked [{ v := .iface 342 (.agg #[]), recovered := false }]
theorem wmust_any (w : World) (x : Bool) : Calls Tryz.prog 282 #[.bool x] w fun e w' => e = (if x then .returned (.tuple #[]) else brokenE) ∧ w' = w := by
 cases x
 · go_enter Tryz.func282, Tryz.ntmps282
   go_wp2_with fail
   exact ⟨rfl, rfl, rfl⟩
 · go_enter Tryz.func282, Tryz.ntmps282
   go_wp2_with fail
   go_end0
   exact ⟨rfl, rfl⟩
theorem Mem.apart {F : Nat → Prop} {w0 w : World} {L : List Res} {b : Nat} {t : TypeId} {cs : List Value} {r : Res} (h : Mem F w0 w (cellsR b t cs :: r :: L)) : ∃ A, r.p A w ∧ ¬ A b := by
 obtain ⟨-, G, ⟨A, B, h1, ⟨C, D, h2, h3, h4, h5⟩, h6, h7⟩, -⟩ := h
 exact ⟨C, h2, fun hC => h6 b ((h1.1 b).2 rfl) ((h5 b).2 (.inl hC))⟩
theorem ltake_ok {A : Nat → Prop} (w : World) (b n : Nat) (r : Rdr) (hl : r.b.length ≤ 70368744177664) (hnl : n ≤ r.b.length) (h : (readerR b r).p A w) :
 Calls Tryz.prog 286 #[.pointer (some ⟨b, 0, none⟩), .int .i64 (n : Int)] w fun e w' =>
  (∃ a c B, e = .returned (.slice a n c) ∧ Bytes w' B (.slice a n c) (r.b.take n)) ∧ Upd A w w' (readerR b ⟨r.b.drop n, r.e⟩) := by
 obtain ⟨a, c, hm⟩ := (Mem.start (r := readerR b r) h).openR
 have HM := Lib.hid hm
 have HLL := Lib.hid hl
 obtain ⟨l, e0⟩ := r
 dsimp only at HM HLL
 clear h hl hm
 dsimp only at hnl ⊢
 have g1 : (n : Int) ≤ (l.length : Int) := by omega
 obtain ⟨A1, hA1, hnb⟩ := HM.out.apart
 have hcap := hA1.1.cap
 have hb1 := hA1.1.part 0 n (by omega) hnl
 rw [List.drop_zero] at hb1
 have hsh := fun W => slice_h W a l.length c n (by omega)
 have hsl := fun W => slice_l W a l.length c n hnl
 obtain ⟨a1, c1, e1⟩ := part_len (a := a) (i := 0) (j := n) (c := c) (s := 1)
 rw [e1, Nat.sub_zero] at hsh hb1
 have hm := ((HM.out.pick (r := readR (.slice a l.length c) l) pk).part n l.length hnl (Nat.le_refl _))
 rw [List.take_length] at hm
 obtain ⟨a2, c2, e2⟩ := part_len (a := a) (i := n) (j := l.length) (c := c) (s := 1)
 rw [e2] at hsl hm
 have hd : l.length - n = (l.drop n).length := by rw [List.length_drop]
 rw [hd] at hsl hm
 obtain ⟨q, hq⟩ : ∃ q, l.take n = q := ⟨_, rfl⟩
 obtain ⟨d, hdd⟩ : ∃ d, l.drop n = d := ⟨_, rfl⟩
 rw [hdd] at hsl hm ⊢
 rw [hq] at hb1 ⊢
 replace HM := Lib.hid hm
 have HB1 := Lib.hid (show ∀ W, Keeps (OneB b) w W → Bytes W A1 (.slice a1 n c1) q from fun W hk => hb1.keeps hk fun k hA hk => hnb (by rw [← show k = b from hk]; exact hA))
 clear hm hdd hd e1 e2 hb1 hA1 hq hnb
 go_enter Tryz.func286, Tryz.ntmps286
 have fM := HM.out.fa
 go_wp2_with fail
 all_goals clear fM
 refine (wmust_any w _).mono ?_
 rintro e w' ⟨rfl, hwq⟩
 rw [hwq]
 clear hwq w'
 simp only [if_true]
 have fM := HM.out.fa
 go_wp2_with fail
 all_goals clear fM
 go_ret
 refine ⟨⟨a1, c1, A1, rfl, HB1.out _ ((Keeps.refl _ _).setOne _ _)⟩, ?_⟩
 refine nxt HM fun w3 M => ?_
 clear HM; have HM := M; clear M
 exact (Mem.shutR (L := []) (Mem.sub HM.out (by repeat first | exact Sub.nil | refine Sub.cons (by with_reducible repeat first | exact ph | apply pt) ?_))).upd
theorem ltake_bad {A : Nat → Prop} (w : World) (b n : Nat) (r : Rdr) (hl : r.b.length ≤ 70368744177664) (hnl : r.b.length < n) (h : (readerR b r).p A w) :
 Calls Tryz.prog 286 #[.pointer (some ⟨b, 0, none⟩), .int .i64 (n : Int)] w fun e w' => e = brokenE ∧ w' = w := by
 obtain ⟨a, c, hm⟩ := (Mem.start (r := readerR b r) h).openR
 have HM := Lib.hid hm
 have HLL := Lib.hid hl
 obtain ⟨l, e0⟩ := r
 dsimp only at HM HLL
 clear h hl hm
 dsimp only at hnl
 have g1 : ¬ (n : Int) ≤ (l.length : Int) := by omega
 go_enter Tryz.func286, Tryz.ntmps286
 have fM := HM.out.fa
 go_wp2_with fail
 all_goals clear fM
 refine (wmust_any w _).mono ?_
 rintro e w' ⟨rfl, hwq⟩
 rw [hwq]
 clear hwq w'
 simp only [Bool.false_eq_true, if_false, brokenE]
 go_wp2_with fail
 exact ⟨rfl, rfl, rfl⟩
theorem rnum_ok {A : Nat → Prop} (w : World) (b n : Nat) (g : Int) (k : Nat) (r : Rdr) (hl : r.b.length ≤ 70368744177664) (hk : takeL r.b = (n, (k : Int))) (hk0 : 0 < k) (hn : (n : Int) ≤ g) (h : (readerR b r).p A w) :
 Calls Tryz.prog 297 #[.pointer (some ⟨b, 0, none⟩), .int .i64 g] w fun e w' => e = .returned (.int .i64 (n : Int)) ∧ Upd A w w' (readerR b ⟨r.b.drop k, r.e⟩) := by
 have hkl := (takeL_k r.b).2.2
 rw [hk] at hkl
 dsimp only at hkl
 obtain ⟨a, c, hm⟩ := (Mem.start (r := readerR b r) h).openR
 have HM := Lib.hid hm
 have HLL := Lib.hid hl
 obtain ⟨l, e0⟩ := r
 dsimp only at HM HLL
 clear h hl hm
 dsimp only at hk hkl ⊢
 have HK := Lib.hid (show takeL l = (n, (k : Int)) ∧ k ≤ l.length from ⟨hk, by omega⟩)
 have g1 : (0 : Int) < (k : Int) := by omega
 clear hk hkl
 go_enter Tryz.func297, Tryz.ntmps297
 have fM := HM.out.fa
 go_wp2_with fail
 all_goals clear fM
 obtain ⟨Ahb, hb⟩ := HM.out.get (r := readR (.slice a l.length c) l) pk
 refine (taken_any w _ l HLL.out hb.1).mono ?_
 rintro e w' ⟨rfl, hwq⟩
 rw [hwq, HK.out.1]
 clear hwq w' hb
 have fM := HM.out.fa
 go_wp2_with fail
 all_goals clear fM
 refine (wmust_any w _).mono ?_
 rintro e w' ⟨rfl, hwq⟩
 rw [hwq]
 clear hwq w'
 simp only [if_true]
 go_wp2_with fail
 replace HM := Lib.hid (Mem.shutR (L := []) HM.out)
 obtain ⟨B, hB, hS⟩ := HM.out.step
 refine (ltake_ok w b k ⟨l, e0⟩ HLL.out HK.out.2 hB).mono ?_
 rintro e w2 ⟨⟨a1, c1, B1, rfl, hb1⟩, hU⟩
 replace HM := Lib.hid (hS _ _ hU)
 clear hU hS hB hb1
 go_wp2_with fail
 go_ret
 exact ⟨rfl, HM.out.upd⟩
theorem rnum_bad {A : Nat → Prop} (w : World) (b : Nat) (g : Int) (r : Rdr) (hl : r.b.length ≤ 70368744177664) (hk : ¬ (0 < (takeL r.b).2 ∧ ((takeL r.b).1 : Int) ≤ g)) (h : (readerR b r).p A w) :
 Calls Tryz.prog 297 #[.pointer (some ⟨b, 0, none⟩), .int .i64 g] w fun e w' => e = brokenE ∧ w' = w := by
 obtain ⟨a, c, hm⟩ := (Mem.start (r := readerR b r) h).openR
 have HM := Lib.hid hm
 have HLL := Lib.hid hl
 obtain ⟨l, e0⟩ := r
 dsimp only at HM HLL
 clear h hl hm
 dsimp only at hk ⊢
 obtain ⟨n, hn⟩ : ∃ n, (takeL l).1 = n := ⟨_, rfl⟩
 obtain ⟨k, hkk⟩ : ∃ k, (takeL l).2 = k := ⟨_, rfl⟩
 have HK := Lib.hid (show (takeL l).1 = n ∧ (takeL l).2 = k from ⟨hn, hkk⟩)
 rw [hn, hkk] at hk
 clear hn hkk
 by_cases g1 : 0 < k
 · have g2 : ¬ (n : Int) ≤ g := fun h => hk ⟨g1, h⟩
   clear hk
   go_enter Tryz.func297, Tryz.ntmps297
   have fM := HM.out.fa
   go_wp2_with fail
   all_goals clear fM
   obtain ⟨Ahb, hb⟩ := HM.out.get (r := readR (.slice a l.length c) l) pk
   refine (taken_any w _ l HLL.out hb.1).mono ?_
   rintro e w' ⟨rfl, hwq⟩
   rw [hwq, HK.out.1, HK.out.2]
   clear hwq w' hb
   have fM := HM.out.fa
   go_wp2_with fail
   all_goals clear fM
   refine (wmust_any w _).mono ?_
   rintro e w' ⟨rfl, hwq⟩
   rw [hwq]
   clear hwq w'
   rw [decide_eq_false (show ¬ (n : Int) ≤ g by omega)]
   simp only [Bool.false_eq_true, if_false, brokenE]
   go_wp2_with fail
   exact ⟨rfl, rfl, rfl⟩
 · clear hk
   go_enter Tryz.func297, Tryz.ntmps297
   have fM := HM.out.fa
   go_wp2_with fail
   all_goals clear fM
   obtain ⟨Ahb, hb⟩ := HM.out.get (r := readR (.slice a l.length c) l) pk
   refine (taken_any w _ l HLL.out hb.1).mono ?_
   rintro e w' ⟨rfl, hwq⟩
   rw [hwq, HK.out.1, HK.out.2]
   clear hwq w' hb
   have fM := HM.out.fa
   go_wp2_with fail
   all_goals clear fM
   refine (wmust_any w _).mono ?_
   rintro e w' ⟨rfl, hwq⟩
   rw [hwq]
   clear hwq w'
   simp only [Bool.false_eq_true, if_false, brokenE]
   go_wp2_with fail
   exact ⟨rfl, rfl, rfl⟩
end
section
theorem assert_broken (w : World) : (Instr.typeAssert (.iface 342 (.agg #[])) 20 342 true).run Tryz.prog w = .ok (.tuple #[.agg #[], .bool true]) w := by kernel_rfl
theorem Mem.leaves {F : Nat → Prop} {w0 w' : World} {L : List Res} {P : Program} {fn : Func} {tmps : Array Value} {R : Ending → World → Prop} {ds : List Deferred} {u : FrameMode} (h : Mem F w0 w' L) (k : ∀ w, Mem F w0 w L → Leaves P fn tmps R ds u w) : Leaves P fn tmps R ds u w' := k _ h
theorem try1_none (w : World) (kr ke : Nat) :
 CallsD Tryz.prog 298 #[.pointer (some ⟨kr, 0, none⟩), .pointer (some ⟨ke, 0, none⟩)] .returning w fun e u' w' => e = .returned (.tuple #[]) ∧ u' = .returning ∧ w' = w := by
 refine callsD_of_wpS Tryz.func298 rfl fun c₀ cs hu => ?_
 simp only [Tryz.ntmps298, List.size_toArray, List.length_cons, List.length_nil, Nat.reduceAdd, Nat.reduceSub, Array.replicate_succ, Array.replicate_zero, List.push_toArray, List.append_toArray, List.nil_append, List.cons_append]
 apply wpS_seq
 apply wpS_region
 simp [wpOpsS, go_sem, recoverD, hu, Exit.thenS]
 refine wpS_of_wp ?_
 go_wp2_with fail
 cases c₀
 simp_all [bodyPostS, results, Tryz.results298]
theorem try1_broken (w : World) (kr ke b : Nat) (v : Value) (e0 z : Int) (older : List PanicEntry) (he : Box w ke 24 [.int .i64 z]) (hr : Box w kr 308 [.pointer (some ⟨b, 0, none⟩)]) (hb : Box w b 327 [v, .int .i64 e0, .bool true])
 (n1 : ke ≠ kr) (n2 : ke ≠ b) (n3 : kr ≠ b) :
 CallsD Tryz.prog 298 #[.pointer (some ⟨kr, 0, none⟩), .pointer (some ⟨ke, 0, none⟩)] (.panicking ({ v := .iface 342 (.agg #[]), recovered := false } :: older)) w fun e u' w' =>
  e = .returned (.tuple #[]) ∧ u' = .panicking ({ v := .iface 342 (.agg #[]), recovered := true } :: older) ∧ w' = (((w.setCell ⟨b, 0, none⟩ (.slice none 0 0)).setCell ⟨b, 1, none⟩ (.int .i64 120)).setCell ⟨ke, 0, none⟩ (.int .i64 120)).alloc (.cells [].toArray 342) := by
 refine callsD_of_wpS Tryz.func298 rfl fun c₀ cs hu => ?_
 simp only [Tryz.ntmps298, List.size_toArray, List.length_cons, List.length_nil, Nat.reduceAdd, Nat.reduceSub, Array.replicate_succ, Array.replicate_zero, List.push_toArray, List.append_toArray, List.nil_append, List.cons_append]
 apply wpS_seq
 apply wpS_region
 simp [wpOpsS, go_sem, recoverD, hu, Exit.thenS]
 refine wpS_of_wp ?_
 obtain ⟨f1, z1⟩ := he.reads
 obtain ⟨f2, z2⟩ := hr.reads
 obtain ⟨f3, z3⟩ := hb.reads
 have l1 := he.lt
 have l2 := hr.lt
 have l3 := hb.lt
 have d1 : ¬ ke = kr := n1
 have d2 : ¬ ke = b := n2
 have d3 : ¬ kr = b := n3
 have d4 : ¬ kr = ke := fun h => n1 h.symm
 have d5 : ¬ b = ke := fun h => n2 h.symm
 have d6 : ¬ b = kr := fun h => n3 h.symm
 have ha := assert_broken
 clear he hr hb n1 n2 n3
 go_wp2_with fail
 refine ⟨rfl, _, rfl, .tuple #[], ?_, rfl, rfl, rfl⟩
 simp [results, Tryz.results298]
theorem try_err {A : Nat → Prop} (w : World) (b : Nat) (r : Rdr) (X : Res) (f : Value) (hr : r.e ≠ 0) (h : SepL [readerR b r, X] A w) :
 Calls Tryz.prog 280 #[.pointer (some ⟨b, 0, none⟩), f] w fun e w' => e = .returned (.int .i64 r.e) ∧ Upd A w w' (listR [readerR b r, X]) := by
 have hr' : (r.e == 0) = false := by simpa using hr
 clear hr
 have HM := Lib.hid (Mem.start (F := A) (r := listR [readerR b r, X]) h)
 have HBL := Lib.hid (show b < w.heap.size from by
  obtain ⟨B, C, ⟨v, D, E, h1, h2, h3, h4⟩, -, -, h5⟩ := h
  exact h1.2.lt)
 clear h
 go_enter_defers Tryz.func280, Tryz.ntmps280
 replace HM := Lib.hid HM.out.unlist
 simp only [List.cons_append, List.nil_append] at HM
 obtain ⟨a, c, hm⟩ := HM.out.openR
 replace HM := Lib.hid hm
 obtain ⟨l, e0⟩ := r
 dsimp only at HM
 dsimp only at hr' ⊢
 have fM := HM.out.fa
 go_wp2_with fail
 all_goals clear fM
 refine nxt HM fun w1 M => ?_
 clear HM; have HM := M; clear M
 obtain ⟨Ahb, hb⟩ := HM.out.get (r := cellsR (w.heap.size + 1) 24 [.int .i64 e0]) pk
 have hc := hb.2.reads.1
 refine ⟨.int .i64 e0, by simp [results, Tryz.results280, go_sem, hc], rfl, ?_⟩
 clear hb hc
 exact (Mem.list' (L1 := [readerR b ⟨l, e0⟩, X]) (L := []) (Mem.shutR (Mem.sub HM.out (by repeat first | exact Sub.nil | refine Sub.cons (by with_reducible repeat first | exact ph | apply pt) ?_)))).upd
theorem try_any {A : Nat → Prop} (w : World) (b f : Nat) (caps : Array Value) (r r' : Rdr) (X X' : Res) (d : Bool) (hr : r.e = 0) (henter : ∀ args w, (callFunc f args).run Tryz.prog w = .ok (.enter f args) w) (h : SepL [readerR b r, X] A w)
 (hf : ∀ B w1, SepL [readerR b r, X] B w1 → Calls Tryz.prog f caps w1 fun e w' => e = (if d then .returned (.tuple #[]) else brokenE) ∧ Upd B w1 w' (listR [readerR b r', X'])) :
 Calls Tryz.prog 280 #[.pointer (some ⟨b, 0, none⟩), .func (.func f) #[] caps] w fun e w' => e = .returned (.int .i64 (if d then 0 else 120)) ∧ Upd A w w' (listR [readerR b (if d then r' else Rdr.bad), X']) := by
 have hmf : ∀ (fn : Fn) (first cap : Array Value) (w : World), (Instr.makeFunc fn first cap).run Tryz.prog w = .ok (.func fn first cap) w := fun _ _ _ _ => rfl
 have HF := Lib.hid hf
 clear hf
 have HM := Lib.hid (Mem.start (F := A) (r := listR [readerR b r, X]) h)
 have HBL := Lib.hid (show b < w.heap.size from by
  obtain ⟨B, C, ⟨v, D, E, h1, h2, h3, h4⟩, -, -, h5⟩ := h
  exact h1.2.lt)
 clear h
 go_enter_defers Tryz.func280, Tryz.ntmps280
 replace HM := Lib.hid HM.out.unlist
 simp only [List.cons_append, List.nil_append] at HM
 obtain ⟨a, c, hm⟩ := HM.out.openR
 replace HM := Lib.hid hm
 obtain ⟨l, e0⟩ := r
 dsimp only at HM
 dsimp only at hr HF
 subst hr
 have fM := HM.out.fa
 go_wp2_with fail
 all_goals clear fM
 refine nxt HM fun w1 M => ?_
 clear HM; have HM := M; clear M
 have hs := Mem.shutR (L := [X, cellsR (w.heap.size + 1) 24 [.int .i64 0], cellsR w.heap.size 308 [.pointer (some ⟨b, 0, none⟩)]]) (Mem.sub HM.out (by repeat first | exact Sub.nil | refine Sub.cons (by with_reducible repeat first | exact ph | apply pt) ?_))
 replace HM := Lib.hid (Mem.list' (L1 := [readerR b ⟨l, 0⟩, X]) hs)
 clear hs
 obtain ⟨B, hB, hS⟩ := HM.out.step
 refine (HF.out B w1 hB).mono ?_
 rintro e w2 ⟨rfl, hU⟩
 replace HM := Lib.hid (hS _ _ hU)
 clear hU hS hB B
 cases d
 · simp only [Bool.false_eq_true, if_false, brokenE]
   replace HM := Lib.hid HM.out.unlist
   simp only [List.cons_append, List.nil_append] at HM
   obtain ⟨a2, c2, hm2⟩ := HM.out.openR
   replace HM := Lib.hid hm2
   clear hm2
   obtain ⟨Ahe, he⟩ := HM.out.get (r := cellsR (w.heap.size + 1) 24 [.int .i64 0]) pk
   obtain ⟨Ahk, hk⟩ := HM.out.get (r := cellsR w.heap.size 308 [.pointer (some ⟨b, 0, none⟩)]) pk
   obtain ⟨Ahx, hx⟩ := HM.out.get (r := cellsR b 327 [.slice a2 r'.b.length c2, .int .i64 r'.e, .bool true]) pk
   have hbl := HBL.out
   refine leaves_cons (f := 298) (args := #[.pointer (some ⟨w.heap.size, 0, none⟩), .pointer (some ⟨w.heap.size + 1, 0, none⟩)]) (by intro h; cases h) (enters_of Tryz.func298 (by kernel_rfl) rfl _ _) ?_
   refine (try1_broken w2 w.heap.size (w.heap.size + 1) b _ _ _ [] he.2 hk.2 hx.2 (by omega) (by omega) (by omega)).mono ?_
   clear he hk hx hbl
   clear Ahe Ahk Ahx
   rintro e u wq ⟨rfl, rfl, rfl⟩
   show Leaves _ _ _ _ [] .returning _
   apply Mem.leaves
   · exact HM.out.to
   intro w7 M
   replace HM := Lib.hid M
   clear M
   obtain ⟨Ahb, hb⟩ := HM.out.get (r := cellsR (w.heap.size + 1) 24 [.int .i64 120]) pk
   have hc := hb.2.reads.1
   refine ⟨.int .i64 120, by simp [results, Tryz.results280, go_sem, hc], rfl, ?_⟩
   clear hb hc
   have h2 := (HM.out.pick (r := readR (.slice a2 r'.b.length c2) r'.b) pk).turn (r' := readR (.slice none 0 0) []) fun A hA => ⟨SlV.nil, hA.2⟩
   exact (Mem.list' (L1 := [readerR b Rdr.bad, X']) (L := []) (Mem.shutR (l := []) (e := 120) (v := .slice none 0 0) (Mem.sub h2 (by repeat first | exact Sub.nil | refine Sub.cons (by with_reducible repeat first | exact ph | apply pt) ?_)))).upd
 · simp only [if_true]
   have fM := HM.out.fa
   go_wp2_with fail
   all_goals clear fM
   refine nxt HM fun w3 M => ?_
   clear HM; have HM := M; clear M
   obtain ⟨Ahb, hb⟩ := HM.out.get (r := cellsR (w.heap.size + 1) 24 [.int .i64 0]) pk
   have hc := hb.2.reads.1
   refine leaves_cons (f := 298) (args := #[.pointer (some ⟨w.heap.size, 0, none⟩), .pointer (some ⟨w.heap.size + 1, 0, none⟩)]) (by intro h; cases h) (enters_of Tryz.func298 (by kernel_rfl) rfl _ _) ?_
   refine (try1_none w3 _ _).mono ?_
   rintro r2 u wq ⟨rfl, rfl, rfl⟩
   refine ⟨.int .i64 0, by simp [results, Tryz.results280, go_sem, hc], rfl, ?_⟩
   clear hb hc
   exact (HM.out.pick (r := listR [readerR b r', X']) pk).upd
end
section
def numX (kr kg kn kl b : Nat) (g n : Int) : Res := listR [cellsR kr 308 [.pointer (some ⟨b, 0, none⟩)], cellsR kg 2 [.int .i64 g], cellsR kn 2 [.int .i64 n], cellsR kl 4 [.bool (decide (g < 0))]]
theorem Mem.shutX {F : Nat → Prop} {w0 w : World} {L : List Res} {kr kg kn kl b : Nat} {g n : Int} (h : Mem F w0 w (cellsR kr 308 [.pointer (some ⟨b, 0, none⟩)] :: cellsR kg 2 [.int .i64 g] :: cellsR kn 2 [.int .i64 n] :: cellsR kl 4 [.bool (decide (g < 0))] :: L)) : Mem F w0 w (numX kr kg kn kl b g n :: L) :=
 Mem.list' (L1 := [cellsR kr 308 [.pointer (some ⟨b, 0, none⟩)], cellsR kg 2 [.int .i64 g], cellsR kn 2 [.int .i64 n], cellsR kl 4 [.bool (decide (g < 0))]]) h
theorem Mem.openX {F : Nat → Prop} {w0 w : World} {L : List Res} {kr kg kn kl b : Nat} {g n : Int} (h : Mem F w0 w (numX kr kg kn kl b g n :: L)) : Mem F w0 w (cellsR kr 308 [.pointer (some ⟨b, 0, none⟩)] :: cellsR kg 2 [.int .i64 g] :: cellsR kn 2 [.int .i64 n] :: cellsR kl 4 [.bool (decide (g < 0))] :: L) :=
 Mem.unlist (L1 := [cellsR kr 308 [.pointer (some ⟨b, 0, none⟩)], cellsR kg 2 [.int .i64 g], cellsR kn 2 [.int .i64 n], cellsR kl 4 [.bool (decide (g < 0))]]) h
theorem number1_low {B : Nat → Prop} (w : World) (kr kg kn kl b : Nat) (g : Int) (r : Rdr) (hl : r.b.length ≤ 70368744177664) (hg : g < 0) (h : SepL [readerR b r, numX kr kg kn kl b g 0] B w) :
 Calls Tryz.prog 296 #[.pointer (some ⟨kl, 0, none⟩), .pointer (some ⟨kr, 0, none⟩), .pointer (some ⟨kg, 0, none⟩), .pointer (some ⟨kn, 0, none⟩)] w fun e w' => e = (if true = true then .returned (.tuple #[]) else brokenE) ∧ Upd B w w' (listR [readerR b r, numX kr kg kn kl b g 0]) := by
 have HLL := Lib.hid hl
 have HM := Lib.hid (Mem.start (F := B) (r := listR [readerR b r, numX kr kg kn kl b g 0]) h).unlist
 simp only [List.cons_append, List.nil_append] at HM
 replace HM := Lib.hid (HM.out.pick (r := numX kr kg kn kl b g 0) pk).openX
 clear h hl
 go_enter Tryz.func296, Tryz.ntmps296
 have fM := HM.out.fa
 go_wp2_with fail
 all_goals clear fM
 go_end0
 refine ⟨rfl, ?_⟩
 exact (Mem.list' (L1 := [readerR b r, numX kr kg kn kl b g 0]) (L := []) (Mem.sub (Mem.shutX (kr := kr) (kg := kg) (kn := kn) (kl := kl) (b := b) (g := g) (n := 0) (L := [readerR b r]) (Mem.sub HM.out (by repeat first | exact Sub.nil | refine Sub.cons (by with_reducible repeat first | exact ph | apply pt) ?_))) (by repeat first | exact Sub.nil | refine Sub.cons (by with_reducible repeat first | exact ph | apply pt) ?_))).upd
theorem number1_ok {B : Nat → Prop} (w : World) (kr kg kn kl b : Nat) (g : Int) (n k : Nat) (r : Rdr) (hl : r.b.length ≤ 70368744177664) (hg : ¬ g < 0) (hk : takeL r.b = (n, (k : Int))) (hk0 : 0 < k) (hn : (n : Int) ≤ g) (h : SepL [readerR b r, numX kr kg kn kl b g 0] B w) :
 Calls Tryz.prog 296 #[.pointer (some ⟨kl, 0, none⟩), .pointer (some ⟨kr, 0, none⟩), .pointer (some ⟨kg, 0, none⟩), .pointer (some ⟨kn, 0, none⟩)] w fun e w' => e = (if true = true then .returned (.tuple #[]) else brokenE) ∧ Upd B w w' (listR [readerR b ⟨r.b.drop k, r.e⟩, numX kr kg kn kl b g n]) := by
 have HK := Lib.hid (show _ ∧ _ ∧ _ from ⟨hk, hk0, hn⟩)
 clear hk hk0 hn
 have HLL := Lib.hid hl
 have HM := Lib.hid (Mem.start (F := B) (r := listR [readerR b r, numX kr kg kn kl b g 0]) h).unlist
 simp only [List.cons_append, List.nil_append] at HM
 replace HM := Lib.hid (HM.out.pick (r := numX kr kg kn kl b g 0) pk).openX
 clear h hl
 go_enter Tryz.func296, Tryz.ntmps296
 have fM := HM.out.fa
 go_wp2_with fail
 all_goals clear fM
 obtain ⟨C, hC, hS⟩ := (HM.out.pick (r := readerR b r) pk).step
 refine (rnum_ok w b n g k r HLL.out HK.out.1 HK.out.2.1 HK.out.2.2 hC).mono ?_
 rintro e w2 ⟨rfl, hU⟩
 replace HM := Lib.hid (hS _ _ hU)
 clear hU hS hC C
 have fM := HM.out.fa
 go_wp2_with fail
 all_goals clear fM
 go_end0
 refine ⟨rfl, ?_⟩
 refine nxt HM fun w3 M => ?_
 clear HM; have HM := M; clear M
 exact (Mem.list' (L1 := [readerR b ⟨r.b.drop k, r.e⟩, numX kr kg kn kl b g n]) (L := []) (Mem.sub (Mem.shutX (kr := kr) (kg := kg) (kn := kn) (kl := kl) (b := b) (g := g) (n := n) (L := [readerR b ⟨r.b.drop k, r.e⟩]) (Mem.sub HM.out (by repeat first | exact Sub.nil | refine Sub.cons (by with_reducible repeat first | exact ph | apply pt) ?_))) (by repeat first | exact Sub.nil | refine Sub.cons (by with_reducible repeat first | exact ph | apply pt) ?_))).upd
theorem number1_bad {B : Nat → Prop} (w : World) (kr kg kn kl b : Nat) (g : Int) (r : Rdr) (hl : r.b.length ≤ 70368744177664) (hg : ¬ g < 0) (hk : ¬ (0 < (takeL r.b).2 ∧ ((takeL r.b).1 : Int) ≤ g)) (h : SepL [readerR b r, numX kr kg kn kl b g 0] B w) :
 Calls Tryz.prog 296 #[.pointer (some ⟨kl, 0, none⟩), .pointer (some ⟨kr, 0, none⟩), .pointer (some ⟨kg, 0, none⟩), .pointer (some ⟨kn, 0, none⟩)] w fun e w' => e = (if false = true then .returned (.tuple #[]) else brokenE) ∧ Upd B w w' (listR [readerR b r, numX kr kg kn kl b g 0]) := by
 have HK := Lib.hid hk
 clear hk
 have HLL := Lib.hid hl
 have HM := Lib.hid (Mem.start (F := B) (r := listR [readerR b r, numX kr kg kn kl b g 0]) h).unlist
 simp only [List.cons_append, List.nil_append] at HM
 replace HM := Lib.hid (HM.out.pick (r := numX kr kg kn kl b g 0) pk).openX
 clear h hl
 go_enter Tryz.func296, Tryz.ntmps296
 have fM := HM.out.fa
 go_wp2_with fail
 all_goals clear fM
 obtain ⟨AhC, hC⟩ := HM.out.get (r := readerR b r) pk
 refine (rnum_bad w b g r HLL.out HK.out hC).mono ?_
 rintro e w' ⟨rfl, hwq⟩
 rw [hwq]
 clear hwq w' hC
 simp only [brokenE]
 go_wp2_with fail
 refine ⟨rfl, rfl, ?_⟩
 exact (Mem.list' (L1 := [readerR b r, numX kr kg kn kl b g 0]) (L := []) (Mem.sub (Mem.shutX (kr := kr) (kg := kg) (kn := kn) (kl := kl) (b := b) (g := g) (n := 0) (L := [readerR b r]) (Mem.sub HM.out (by repeat first | exact Sub.nil | refine Sub.cons (by with_reducible repeat first | exact ph | apply pt) ?_))) (by repeat first | exact Sub.nil | refine Sub.cons (by with_reducible repeat first | exact ph | apply pt) ?_))).upd
theorem rnumber_any {A : Nat → Prop} (w : World) (b : Nat) (g : Int) (r : Rdr) (hl : r.b.length ≤ 70368744177664) (h : (readerR b r).p A w) :
 Calls Tryz.prog 279 #[.pointer (some ⟨b, 0, none⟩), .int .i64 g] w fun e w' => e = .returned (.tuple #[.int .i64 ((r.num g).2.1 : Int), .int .i64 (r.num g).2.2]) ∧ Upd A w w' (readerR b (r.num g).1) := by
 have hmf : ∀ (fn : Fn) (first cap : Array Value) (w : World), (Instr.makeFunc fn first cap).run Tryz.prog w = .ok (.func fn first cap) w := fun _ _ _ _ => rfl
 have HM := Lib.hid (Mem.start (r := readerR b r) h)
 have HLL := Lib.hid hl
 clear h hl
 go_enter Tryz.func279, Tryz.ntmps279
 have fM := HM.out.fa
 go_wp2_with fail
 all_goals clear fM
 refine nxt HM fun w1 M => ?_
 clear HM; have HM := M; clear M
 obtain ⟨kr, hkr⟩ : ∃ k, w.heap.size = k := ⟨_, rfl⟩
 obtain ⟨kg, hkg⟩ : ∃ k, kr + 1 = k := ⟨_, rfl⟩
 obtain ⟨kn, hkn⟩ : ∃ k, kg + 1 = k := ⟨_, rfl⟩
 obtain ⟨kl, hkl⟩ : ∃ k, kn + 1 = k := ⟨_, rfl⟩
 rw [hkr, hkg, hkn, hkl] at HM ⊢
 clear hkr hkg hkn hkl
 have hen := enters_of (P := Tryz.prog) Tryz.func296 (by kernel_rfl) rfl
 replace HM := Lib.hid (Mem.list' (L1 := [readerR b r, numX kr kg kn kl b g 0]) (L := []) (Mem.sub (Mem.shutX (kr := kr) (kg := kg) (kn := kn) (kl := kl) (b := b) (g := g) (n := 0) (L := [readerR b r]) (Mem.sub HM.out (by repeat first | exact Sub.nil | refine Sub.cons (by with_reducible repeat first | exact ph | apply pt) ?_))) (by repeat first | exact Sub.nil | refine Sub.cons (by with_reducible repeat first | exact ph | apply pt) ?_)))
 obtain ⟨C, hC, hS⟩ := HM.out.step
 by_cases hr : r.e = 0
 case neg =>
  have hq : r.num g = (r, 0, r.e) := by unfold Rdr.num; rw [if_pos hr]
  have HQ := Lib.hid hq
  have HR := Lib.hid hr
  clear hq hr
  refine (try_err w1 b r _ _ HR.out hC).mono ?_
  rintro e w2 ⟨rfl, hU⟩
  replace HM := Lib.hid (hS _ _ hU).unlist
  simp only [List.cons_append, List.nil_append] at HM
  replace HM := Lib.hid (HM.out.pick (r := numX kr kg kn kl b g 0) pk).openX
  clear hU hS hC C hen hmf
  have hr' : (r.e == 0) = false := by simpa using HR.out
  have fM := HM.out.fa
  go_wp2_with fail
  all_goals clear fM
  refine nxt HM fun w3 M => ?_
  clear HM; have HM := M; clear M
  obtain ⟨Ahb, hb⟩ := HM.out.get (r := cellsR kn 2 [.int .i64 0]) pk
  have hc := hb.2.reads.1
  rw [HQ.out]
  refine bodyPost_ret (v := .tuple #[.int .i64 0, .int .i64 _]) (by simp [results, Tryz.results279, go_sem, hc]; try rfl) rfl ⟨rfl, ?_⟩
  exact (HM.out.pick (r := readerR b r) pk).upd
 by_cases hg : g < 0
 · have hq : r.num g = (r, 0, 2) := by unfold Rdr.num; rw [if_neg (by simpa using hr), if_pos hg]
   have HQ := Lib.hid hq
   clear hq
   refine (try_any w1 b _ _ r r _ _ true hr hen hC fun B w2 h2 => number1_low w2 kr kg kn kl b g r HLL.out hg h2).mono ?_
   rintro e w2 ⟨rfl, hU⟩
   simp only [if_true] at hU ⊢
   replace HM := Lib.hid (hS _ _ hU).unlist
   simp only [List.cons_append, List.nil_append] at HM
   replace HM := Lib.hid (HM.out.pick (r := numX kr kg kn kl b g 0) pk).openX
   clear hU hS hC C hen hmf
   have hg' : decide (g < 0) = true := decide_eq_true hg
   clear hr
   have fM := HM.out.fa
   go_wp2_with fail
   all_goals clear fM
   refine nxt HM fun w3 M => ?_
   clear HM; have HM := M; clear M
   obtain ⟨Ahb, hb⟩ := HM.out.get (r := cellsR kn 2 [.int .i64 0]) pk
   have hc := hb.2.reads.1
   rw [HQ.out]
   refine bodyPost_ret (v := .tuple #[.int .i64 0, .int .i64 _]) (by simp [results, Tryz.results279, go_sem, hc]; try rfl) rfl ⟨rfl, ?_⟩
   exact (HM.out.pick (r := readerR b r) pk).upd
 by_cases hk : 0 < (takeL r.b).2 ∧ ((takeL r.b).1 : Int) ≤ g
 · obtain ⟨k, hkk⟩ : ∃ k : Nat, (takeL r.b).2 = k := ⟨(takeL r.b).2.toNat, by omega⟩
   obtain ⟨n, hn⟩ : ∃ n, (takeL r.b).1 = n := ⟨_, rfl⟩
   have ht : takeL r.b = (n, (k : Int)) := by rw [← hn, ← hkk]
   rw [hkk, hn] at hk
   have hq : r.num g = (⟨r.b.drop k, r.e⟩, n, 0) := by
    unfold Rdr.num
    rw [if_neg (by simpa using hr), if_neg hg, ht, if_pos hk, hr]
    rfl
   have HQ := Lib.hid hq
   clear hq hkk hn
   refine (try_any w1 b _ _ r ⟨r.b.drop k, r.e⟩ _ _ true hr hen hC fun B w2 h2 => number1_ok w2 kr kg kn kl b g n k r HLL.out hg ht (by omega) hk.2 h2).mono ?_
   rintro e w2 ⟨rfl, hU⟩
   simp only [if_true] at hU ⊢
   replace HM := Lib.hid (hS _ _ hU).unlist
   simp only [List.cons_append, List.nil_append] at HM
   replace HM := Lib.hid (HM.out.pick (r := numX kr kg kn kl b g n) pk).openX
   clear hU hS hC C hen hmf
   clear hr hk ht
   have hg' : decide (g < 0) = false := decide_eq_false hg
   have fM := HM.out.fa
   go_wp2_with fail
   all_goals clear fM
   refine nxt HM fun w3 M => ?_
   clear HM; have HM := M; clear M
   obtain ⟨Ahb, hb⟩ := HM.out.get (r := cellsR kn 2 [.int .i64 n]) pk
   have hc := hb.2.reads.1
   rw [HQ.out]
   refine bodyPost_ret (v := .tuple #[.int .i64 n, .int .i64 _]) (by simp [results, Tryz.results279, go_sem, hc]; try rfl) rfl ⟨rfl, ?_⟩
   exact (HM.out.pick (r := readerR b ⟨r.b.drop k, r.e⟩) pk).upd
 · have hq : r.num g = (Rdr.bad, 0, 120) := by unfold Rdr.num; rw [if_neg (by simpa using hr), if_neg hg, if_neg hk]
   have HQ := Lib.hid hq
   clear hq
   refine (try_any w1 b _ _ r r _ _ false hr hen hC fun B w2 h2 => number1_bad w2 kr kg kn kl b g r HLL.out hg hk h2).mono ?_
   rintro e w2 ⟨rfl, hU⟩
   simp only [Bool.false_eq_true, if_false] at hU ⊢
   replace HM := Lib.hid (hS _ _ hU).unlist
   simp only [List.cons_append, List.nil_append] at HM
   replace HM := Lib.hid (HM.out.pick (r := numX kr kg kn kl b g 0) pk).openX
   clear hU hS hC C hen hmf
   clear hr hk
   have fM := HM.out.fa
   go_wp2_with fail
   all_goals clear fM
   refine nxt HM fun w3 M => ?_
   clear HM; have HM := M; clear M
   obtain ⟨Ahb, hb⟩ := HM.out.get (r := cellsR kn 2 [.int .i64 0]) pk
   have hc := hb.2.reads.1
   rw [HQ.out]
   refine bodyPost_ret (v := .tuple #[.int .i64 0, .int .i64 _]) (by simp [results, Tryz.results279, go_sem, hc]; try rfl) rfl ⟨rfl, ?_⟩
   exact (HM.out.pick (r := readerR b Rdr.bad) pk).upd
end
section
def txtX (kr kg kn kl b : Nat) (g : Int) (s : List UInt8) : Res := listR [cellsR kr 308 [.pointer (some ⟨b, 0, none⟩)], cellsR kg 3 [.int .i64 g], cellsR kn 9 [.string (bs s)], cellsR kl 4 [.bool (decide (g < 0))]]
theorem Mem.shutTX {F : Nat → Prop} {w0 w : World} {L : List Res} {kr kg kn kl b : Nat} {g : Int} {s : List UInt8} (h : Mem F w0 w (cellsR kr 308 [.pointer (some ⟨b, 0, none⟩)] :: cellsR kg 3 [.int .i64 g] :: cellsR kn 9 [.string (bs s)] :: cellsR kl 4 [.bool (decide (g < 0))] :: L)) : Mem F w0 w (txtX kr kg kn kl b g s :: L) :=
 Mem.list' (L1 := [cellsR kr 308 [.pointer (some ⟨b, 0, none⟩)], cellsR kg 3 [.int .i64 g], cellsR kn 9 [.string (bs s)], cellsR kl 4 [.bool (decide (g < 0))]]) h
theorem Mem.openTX {F : Nat → Prop} {w0 w : World} {L : List Res} {kr kg kn kl b : Nat} {g : Int} {s : List UInt8} (h : Mem F w0 w (txtX kr kg kn kl b g s :: L)) : Mem F w0 w (cellsR kr 308 [.pointer (some ⟨b, 0, none⟩)] :: cellsR kg 3 [.int .i64 g] :: cellsR kn 9 [.string (bs s)] :: cellsR kl 4 [.bool (decide (g < 0))] :: L) :=
 Mem.unlist (L1 := [cellsR kr 308 [.pointer (some ⟨b, 0, none⟩)], cellsR kg 3 [.int .i64 g], cellsR kn 9 [.string (bs s)], cellsR kl 4 [.bool (decide (g < 0))]]) h
theorem Mem.apart2 {F : Nat → Prop} {w0 w : World} {L L1 L2 L3 : List Res} {r : Res} {b1 b2 : Nat} {t1 t2 : TypeId} {c1 c2 : List Value} (h : Mem F w0 w L) (p : Pick L r L1) (p1 : Pick L1 (cellsR b1 t1 c1) L2) (p2 : Pick L1 (cellsR b2 t2 c2) L3) :
 ∃ C, r.p C w ∧ ¬ C b1 ∧ ¬ C b2 ∧ ∀ (r' : Res) (w' : World), Upd C w w' r' → Mem F w0 w' (r' :: L1) := by
 have hm := h.pick p
 obtain ⟨C, hC, -, hS⟩ := hm.step'
 obtain ⟨a, G, ⟨A, B, h1, h2, h3, h4⟩, c⟩ := hm
 have f : ∀ {b : Nat} {t : TypeId} {cs : List Value} {L' : List Res}, Pick L1 (cellsR b t cs) L' → B b := fun q => by
  obtain ⟨A', B', g1, g2, g3, g4⟩ := q.sep h2
  exact (g4 _).2 (.inl ((g1.1 _).2 rfl))
 refine ⟨A, h1, fun hA => h3 _ hA (f p1), fun hA => h3 _ hA (f p2), fun r' w' hU => ?_⟩
 obtain ⟨A', u1, u2, u3⟩ := hU
 have hA := fun k hk => c k ((h4 k).2 (.inl hk))
 have hB := fun k hk => c k ((h4 k).2 (.inr hk))
 have hlt := h2.lt
 refine ⟨a.then u2 fun i hi h => ?_, fun k => A' k ∨ B k, ⟨A', B, u1, h2.keeps u2 fun k hk hA' => h3 k hA' hk, fun k h5 h6 => ?_, fun k => Iff.rfl⟩, fun k hk => ?_⟩
 · rcases hA i h with h | h
   · exact h
   · omega
 · rcases u3 k h5 with h | h
   · exact h3 k h h6
   · have := hlt k h6; omega
 · rcases hk with hk | hk
   · rcases u3 k hk with h | h
     · exact hA k h
     · have := a.size; exact .inr (by omega)
   · exact hB k hk
theorem bs_nil : bs [] = ⟨#[]⟩ := rfl
theorem text1_low {B : Nat → Prop} (w : World) (kr kg kn kl b : Nat) (g : Int) (r : Rdr) (hl : r.b.length ≤ 70368744177664) (hg : g < 0) (h : SepL [readerR b r, txtX kr kg kn kl b g []] B w) :
 Calls Tryz.prog 300 #[.pointer (some ⟨kl, 0, none⟩), .pointer (some ⟨kr, 0, none⟩), .pointer (some ⟨kg, 0, none⟩), .pointer (some ⟨kn, 0, none⟩)] w fun e w' => e = (if true = true then .returned (.tuple #[]) else brokenE) ∧ Upd B w w' (listR [readerR b r, txtX kr kg kn kl b g []]) := by
 have HLL := Lib.hid hl
 have HM := Lib.hid (Mem.start (F := B) (r := listR [readerR b r, txtX kr kg kn kl b g []]) h).unlist
 simp only [List.cons_append, List.nil_append] at HM
 replace HM := Lib.hid (HM.out.pick (r := txtX kr kg kn kl b g []) pk).openTX
 clear h hl
 go_enter Tryz.func300, Tryz.ntmps300
 have fM := HM.out.fa
 go_wp2_with fail
 all_goals clear fM
 go_end0
 refine ⟨rfl, ?_⟩
 exact (Mem.list' (L1 := [readerR b r, txtX kr kg kn kl b g []]) (L := []) (Mem.sub (Mem.shutTX (kr := kr) (kg := kg) (kn := kn) (kl := kl) (b := b) (g := g) (s := []) (L := [readerR b r]) (Mem.sub HM.out (by repeat first | exact Sub.nil | refine Sub.cons (by with_reducible repeat first | exact ph | apply pt) ?_))) (by repeat first | exact Sub.nil | refine Sub.cons (by with_reducible repeat first | exact ph | apply pt) ?_))).upd
theorem text1_ok {B : Nat → Prop} (w : World) (kr kg kn kl b : Nat) (g : Int) (n k : Nat) (r : Rdr) (hl : r.b.length ≤ 70368744177664) (hg : ¬ g < 0) (hk : takeL r.b = (n, (k : Int))) (hk0 : 0 < k) (hn : (n : Int) ≤ g) (hn2 : n ≤ (r.b.drop k).length) (h : SepL [readerR b r, txtX kr kg kn kl b g []] B w) :
 Calls Tryz.prog 300 #[.pointer (some ⟨kl, 0, none⟩), .pointer (some ⟨kr, 0, none⟩), .pointer (some ⟨kg, 0, none⟩), .pointer (some ⟨kn, 0, none⟩)] w fun e w' => e = (if true = true then .returned (.tuple #[]) else brokenE) ∧ Upd B w w' (listR [readerR b ⟨(r.b.drop k).drop n, r.e⟩, txtX kr kg kn kl b g ((r.b.drop k).take n)]) := by
 have HK := Lib.hid (show _ ∧ _ ∧ _ ∧ _ from ⟨hk, hk0, hn, hn2⟩)
 clear hk hk0 hn hn2
 have HLL := Lib.hid hl
 have HM := Lib.hid (Mem.start (F := B) (r := listR [readerR b r, txtX kr kg kn kl b g []]) h).unlist
 simp only [List.cons_append, List.nil_append] at HM
 replace HM := Lib.hid (HM.out.pick (r := txtX kr kg kn kl b g []) pk).openTX
 clear h hl
 go_enter Tryz.func300, Tryz.ntmps300
 have fM := HM.out.fa
 go_wp2_with fail
 all_goals clear fM
 obtain ⟨C, hC, ha1, ha2, hS⟩ := HM.out.apart2 (r := readerR b r) (b1 := kr) (b2 := kg) (by with_reducible repeat first | exact ph | apply pt) (by with_reducible repeat first | exact ph | apply pt) (by with_reducible repeat first | exact ph | apply pt)
 have fM := HM.out.fa
 have hE0 : Keeps (C) w w.drew := (Keeps.refl _ _).drew
 refine wp_region_plan [(1, 0), (0, 1), (0, 2), (3, 3), (3, 4), (2, 5)] [0] [5, 6, 7, 8] [6, 7, 8] (ClsK (C) w) (by kernel_rfl) (by kernel_rfl) (by kernel_rfl) rfl rfl (ClsK.of hE0) (fun _ _ _ d _ h => by cases d <;> exact h) ?_; simp only [planL, nL]
 refine pK rfl (fun W => by go_simp <;> with_reducible rfl) ?_; simp only [nP]
 iterate 2 (refine pR rfl (fun W => by go_simp <;> with_reducible rfl) ?_; simp only [nP])
 iterate 2 (refine pX rfl (by go_simp <;> with_reducible rfl) ?_; simp only [nP])
 refine plan_does rfl (fun K hK => ?_)
 go_wp2_with fail
 refine (rnum_ok _ b n g k r HLL.out HK.out.1 HK.out.2.1 HK.out.2.2.1 (Res.keeps _ hC (Ext.drew0 w) (fun _ _ => noB _))).mono ?_
 rintro e w2 ⟨rfl, hU⟩
 have hU2 := hU.pre (Ext.drew0 w)
 have hE1 := hU2.keepsTo
 clear hU
 refine hK _ _ ⟨ClsK.of (by assumption), ?_⟩; clear hK K; try simp only [nP]
 refine plan_nil ?_; simp only [tailL, List.filterMap_cons, List.filterMap_nil, nL]; change wpList _ _ _ (_ :: _ :: _ :: []) _ _
 clear fM
 replace HM := Lib.hid (hS _ _ hU2)
 clear hU2 hE1 hE0 hS hC ha1 ha2
 obtain ⟨q, hq⟩ : ∃ q, r.b.drop k = q := ⟨_, rfl⟩
 have HQL := Lib.hid (show q.length ≤ 70368744177664 by rw [← hq, List.length_drop]; have := HLL.out; omega)
 have HN2 := Lib.hid HK.out.2.2.2
 rw [hq] at HM HN2
 have HQ := Lib.hid hq
 clear hq
 have fM := HM.out.fa
 go_wp2_with fail
 all_goals clear fM
 obtain ⟨D, hD, hS⟩ := (HM.out.pick (r := readerR b ⟨q, r.e⟩) pk).step
 refine (ltake_ok w2 b n ⟨q, r.e⟩ HQL.out HN2.out hD).mono ?_
 rintro e w3 ⟨⟨a1, c1, B1, rfl, hb1⟩, hU⟩
 replace HM := Lib.hid (hS _ _ hU)
 have hcv := hb1.str
 clear hU hS hD hb1
 have fM := HM.out.fa
 go_wp2_with fail
 all_goals clear fM
 refine nxt HM fun w4 M => ?_
 clear HM; have HM := M; clear M
 go_end0
 rw [HQ.out]
 refine ⟨by simp, ?_⟩
 obtain ⟨s, hs⟩ : ∃ s, q.take n = s := ⟨_, rfl⟩
 rw [hs] at HM ⊢
 rw [show List.drop (k + n) r.b = q.drop n by rw [← HQ.out, List.drop_drop]]
 exact (Mem.list' (L1 := [readerR b ⟨q.drop n, r.e⟩, txtX kr kg kn kl b g s]) (L := []) (Mem.sub (Mem.shutTX (kr := kr) (kg := kg) (kn := kn) (kl := kl) (b := b) (g := g) (s := s) (L := [readerR b ⟨q.drop n, r.e⟩]) (Mem.sub HM.out (by repeat first | exact Sub.nil | refine Sub.cons (by with_reducible repeat first | exact ph | apply pt) ?_))) (by repeat first | exact Sub.nil | refine Sub.cons (by with_reducible repeat first | exact ph | apply pt) ?_))).upd
theorem text1_bad {B : Nat → Prop} (w : World) (kr kg kn kl b : Nat) (g : Int) (r : Rdr) (hl : r.b.length ≤ 70368744177664) (hg : ¬ g < 0) (hk : ¬ (0 < (takeL r.b).2 ∧ ((takeL r.b).1 : Int) ≤ g)) (h : SepL [readerR b r, txtX kr kg kn kl b g []] B w) :
 Calls Tryz.prog 300 #[.pointer (some ⟨kl, 0, none⟩), .pointer (some ⟨kr, 0, none⟩), .pointer (some ⟨kg, 0, none⟩), .pointer (some ⟨kn, 0, none⟩)] w fun e w' => e = (if false = true then .returned (.tuple #[]) else brokenE) ∧ Upd B w w' (listR [readerR b r, txtX kr kg kn kl b g []]) := by
 have HK := Lib.hid hk
 clear hk
 have HLL := Lib.hid hl
 have HM := Lib.hid (Mem.start (F := B) (r := listR [readerR b r, txtX kr kg kn kl b g []]) h).unlist
 simp only [List.cons_append, List.nil_append] at HM
 replace HM := Lib.hid (HM.out.pick (r := txtX kr kg kn kl b g []) pk).openTX
 clear h hl
 go_enter Tryz.func300, Tryz.ntmps300
 have fM := HM.out.fa
 go_wp2_with fail
 all_goals clear fM
 obtain ⟨C, hC, ha1, ha2, hS⟩ := HM.out.apart2 (r := readerR b r) (b1 := kr) (b2 := kg) (by with_reducible repeat first | exact ph | apply pt) (by with_reducible repeat first | exact ph | apply pt) (by with_reducible repeat first | exact ph | apply pt)
 have fM := HM.out.fa
 have hE0 : Keeps (C) w w.drew := (Keeps.refl _ _).drew
 refine wp_region_plan [(1, 0), (0, 1), (0, 2), (3, 3), (3, 4), (2, 5)] [0] [5, 6, 7, 8] [6, 7, 8] (ClsK (C) w) (by kernel_rfl) (by kernel_rfl) (by kernel_rfl) rfl rfl (ClsK.of hE0) (fun _ _ _ d _ h => by cases d <;> exact h) ?_; simp only [planL, nL]
 refine pK rfl (fun W => by go_simp <;> with_reducible rfl) ?_; simp only [nP]
 iterate 2 (refine pR rfl (fun W => by go_simp <;> with_reducible rfl) ?_; simp only [nP])
 iterate 2 (refine pX rfl (by go_simp <;> with_reducible rfl) ?_; simp only [nP])
 refine plan_does rfl (fun K hK => ?_)
 go_wp2_with fail
 refine (rnum_bad _ b g r HLL.out HK.out (Res.keeps _ hC (Ext.drew0 w) (fun _ _ => noB _))).mono ?_
 rintro e w' ⟨rfl, hwq⟩
 rw [hwq]
 clear hwq w'
 simp only [brokenE]
 refine ⟨rfl, rfl, ?_⟩
 clear hK K hE0 hS ha1 ha2 hC
 clear fM
 replace HM := Lib.hid HM.out.drew
 exact (Mem.list' (L1 := [readerR b r, txtX kr kg kn kl b g []]) (L := []) (Mem.sub (Mem.shutTX (kr := kr) (kg := kg) (kn := kn) (kl := kl) (b := b) (g := g) (s := []) (L := [readerR b r]) (Mem.sub HM.out (by repeat first | exact Sub.nil | refine Sub.cons (by with_reducible repeat first | exact ph | apply pt) ?_))) (by repeat first | exact Sub.nil | refine Sub.cons (by with_reducible repeat first | exact ph | apply pt) ?_))).upd
theorem text1_bad2 {B : Nat → Prop} (w : World) (kr kg kn kl b : Nat) (g : Int) (n k : Nat) (r : Rdr) (hl : r.b.length ≤ 70368744177664) (hg : ¬ g < 0) (hk : takeL r.b = (n, (k : Int))) (hk0 : 0 < k) (hn : (n : Int) ≤ g) (hn2 : (r.b.drop k).length < n) (h : SepL [readerR b r, txtX kr kg kn kl b g []] B w) :
 Calls Tryz.prog 300 #[.pointer (some ⟨kl, 0, none⟩), .pointer (some ⟨kr, 0, none⟩), .pointer (some ⟨kg, 0, none⟩), .pointer (some ⟨kn, 0, none⟩)] w fun e w' => e = (if false = true then .returned (.tuple #[]) else brokenE) ∧ Upd B w w' (listR [readerR b ⟨r.b.drop k, r.e⟩, txtX kr kg kn kl b g []]) := by
 have HK := Lib.hid (show _ ∧ _ ∧ _ ∧ _ from ⟨hk, hk0, hn, hn2⟩)
 clear hk hk0 hn hn2
 have HLL := Lib.hid hl
 have HM := Lib.hid (Mem.start (F := B) (r := listR [readerR b r, txtX kr kg kn kl b g []]) h).unlist
 simp only [List.cons_append, List.nil_append] at HM
 replace HM := Lib.hid (HM.out.pick (r := txtX kr kg kn kl b g []) pk).openTX
 clear h hl
 go_enter Tryz.func300, Tryz.ntmps300
 have fM := HM.out.fa
 go_wp2_with fail
 all_goals clear fM
 obtain ⟨C, hC, ha1, ha2, hS⟩ := HM.out.apart2 (r := readerR b r) (b1 := kr) (b2 := kg) (by with_reducible repeat first | exact ph | apply pt) (by with_reducible repeat first | exact ph | apply pt) (by with_reducible repeat first | exact ph | apply pt)
 have fM := HM.out.fa
 have hE0 : Keeps (C) w w.drew := (Keeps.refl _ _).drew
 refine wp_region_plan [(1, 0), (0, 1), (0, 2), (3, 3), (3, 4), (2, 5)] [0] [5, 6, 7, 8] [6, 7, 8] (ClsK (C) w) (by kernel_rfl) (by kernel_rfl) (by kernel_rfl) rfl rfl (ClsK.of hE0) (fun _ _ _ d _ h => by cases d <;> exact h) ?_; simp only [planL, nL]
 refine pK rfl (fun W => by go_simp <;> with_reducible rfl) ?_; simp only [nP]
 iterate 2 (refine pR rfl (fun W => by go_simp <;> with_reducible rfl) ?_; simp only [nP])
 iterate 2 (refine pX rfl (by go_simp <;> with_reducible rfl) ?_; simp only [nP])
 refine plan_does rfl (fun K hK => ?_)
 go_wp2_with fail
 refine (rnum_ok _ b n g k r HLL.out HK.out.1 HK.out.2.1 HK.out.2.2.1 (Res.keeps _ hC (Ext.drew0 w) (fun _ _ => noB _))).mono ?_
 rintro e w2 ⟨rfl, hU⟩
 have hU2 := hU.pre (Ext.drew0 w)
 have hE1 := hU2.keepsTo
 clear hU
 refine hK _ _ ⟨ClsK.of (by assumption), ?_⟩; clear hK K; try simp only [nP]
 refine plan_nil ?_; simp only [tailL, List.filterMap_cons, List.filterMap_nil, nL]; change wpList _ _ _ (_ :: _ :: _ :: []) _ _
 clear fM
 replace HM := Lib.hid (hS _ _ hU2)
 clear hU2 hE1 hE0 hS hC ha1 ha2
 have fM := HM.out.fa
 go_wp2_with fail
 all_goals clear fM
 obtain ⟨AhD, hD⟩ := HM.out.get (r := readerR b ⟨r.b.drop k, r.e⟩) pk
 refine (ltake_bad w2 b n ⟨r.b.drop k, r.e⟩ (by rw [List.length_drop]; have := HLL.out; omega) HK.out.2.2.2 hD).mono ?_
 rintro e w' ⟨rfl, hwq⟩
 rw [hwq]
 clear hwq w' hD
 simp only [brokenE]
 refine ⟨rfl, rfl, ?_⟩
 exact (Mem.list' (L1 := [readerR b ⟨r.b.drop k, r.e⟩, txtX kr kg kn kl b g []]) (L := []) (Mem.sub (Mem.shutTX (kr := kr) (kg := kg) (kn := kn) (kl := kl) (b := b) (g := g) (s := []) (L := [readerR b ⟨r.b.drop k, r.e⟩]) (Mem.sub HM.out (by repeat first | exact Sub.nil | refine Sub.cons (by with_reducible repeat first | exact ph | apply pt) ?_))) (by repeat first | exact Sub.nil | refine Sub.cons (by with_reducible repeat first | exact ph | apply pt) ?_))).upd
theorem rtext_any {A : Nat → Prop} (w : World) (b : Nat) (g : Int) (r : Rdr) (hl : r.b.length ≤ 70368744177664) (h : (readerR b r).p A w) :
 Calls Tryz.prog 284 #[.pointer (some ⟨b, 0, none⟩), .int .i64 g] w fun e w' => e = .returned (.tuple #[.string (bs (r.txt g).2.1), .int .i64 (r.txt g).2.2]) ∧ Upd A w w' (readerR b (r.txt g).1) := by
 have hmf : ∀ (fn : Fn) (first cap : Array Value) (w : World), (Instr.makeFunc fn first cap).run Tryz.prog w = .ok (.func fn first cap) w := fun _ _ _ _ => rfl
 have HM := Lib.hid (Mem.start (r := readerR b r) h)
 have HLL := Lib.hid hl
 clear h hl
 go_enter Tryz.func284, Tryz.ntmps284
 have fM := HM.out.fa
 go_wp2_with fail
 all_goals clear fM
 refine nxt HM fun w1 M => ?_
 clear HM; have HM := M; clear M
 obtain ⟨kr, hkr⟩ : ∃ k, w.heap.size = k := ⟨_, rfl⟩
 obtain ⟨kg, hkg⟩ : ∃ k, kr + 1 = k := ⟨_, rfl⟩
 obtain ⟨kn, hkn⟩ : ∃ k, kg + 1 = k := ⟨_, rfl⟩
 obtain ⟨kl, hkl⟩ : ∃ k, kn + 1 = k := ⟨_, rfl⟩
 rw [hkr, hkg, hkn, hkl] at HM ⊢
 rw [← bs_nil] at HM
 clear hkr hkg hkn hkl
 have hen := enters_of (P := Tryz.prog) Tryz.func300 (by kernel_rfl) rfl
 replace HM := Lib.hid (Mem.list' (L1 := [readerR b r, txtX kr kg kn kl b g []]) (L := []) (Mem.sub (Mem.shutTX (kr := kr) (kg := kg) (kn := kn) (kl := kl) (b := b) (g := g) (s := []) (L := [readerR b r]) (Mem.sub HM.out (by repeat first | exact Sub.nil | refine Sub.cons (by with_reducible repeat first | exact ph | apply pt) ?_))) (by repeat first | exact Sub.nil | refine Sub.cons (by with_reducible repeat first | exact ph | apply pt) ?_)))
 obtain ⟨C, hC, hS⟩ := HM.out.step
 by_cases hr : r.e = 0
 case neg =>
  have hq : r.txt g = (r, [], r.e) := by unfold Rdr.txt Rdr.num; rw [if_pos hr]; exact if_pos hr
  have HQ := Lib.hid hq
  have HR := Lib.hid hr
  clear hq hr
  refine (try_err w1 b r _ _ HR.out hC).mono ?_
  rintro e w2 ⟨rfl, hU⟩
  replace HM := Lib.hid (hS _ _ hU).unlist
  simp only [List.cons_append, List.nil_append] at HM
  replace HM := Lib.hid (HM.out.pick (r := txtX kr kg kn kl b g []) pk).openTX
  clear hU hS hC C hen hmf
  have hr' : (r.e == 0) = false := by simpa using HR.out
  have fM := HM.out.fa
  go_wp2_with fail
  all_goals clear fM
  refine nxt HM fun w3 M => ?_
  clear HM; have HM := M; clear M
  obtain ⟨Ahb, hb⟩ := HM.out.get (r := cellsR kn 9 [.string (bs [])]) pk
  have hc := hb.2.reads.1
  rw [HQ.out]
  refine bodyPost_ret (v := .tuple #[.string (bs []), .int .i64 _]) (by simp [results, Tryz.results284, go_sem, hc]; try rfl) rfl ⟨rfl, ?_⟩
  exact (HM.out.pick (r := readerR b r) pk).upd
 have hne : ¬ r.e ≠ 0 := by simpa using hr
 by_cases hg : g < 0
 · have hq : r.txt g = (r, [], 2) := by unfold Rdr.txt Rdr.num; rw [if_neg hne, if_pos hg]; rfl
   have HQ := Lib.hid hq
   clear hq hne
   refine (try_any w1 b _ _ r r _ _ true hr hen hC fun B w2 h2 => text1_low w2 kr kg kn kl b g r HLL.out hg h2).mono ?_
   rintro e w2 ⟨rfl, hU⟩
   simp only [if_true] at hU ⊢
   replace HM := Lib.hid (hS _ _ hU).unlist
   simp only [List.cons_append, List.nil_append] at HM
   replace HM := Lib.hid (HM.out.pick (r := txtX kr kg kn kl b g []) pk).openTX
   clear hU hS hC C hen hmf
   have hg' : decide (g < 0) = true := decide_eq_true hg
   clear hr
   have fM := HM.out.fa
   go_wp2_with fail
   all_goals clear fM
   refine nxt HM fun w3 M => ?_
   clear HM; have HM := M; clear M
   obtain ⟨Ahb, hb⟩ := HM.out.get (r := cellsR kn 9 [.string (bs [])]) pk
   have hc := hb.2.reads.1
   rw [HQ.out]
   refine bodyPost_ret (v := .tuple #[.string (bs []), .int .i64 _]) (by simp [results, Tryz.results284, go_sem, hc]; try rfl) rfl ⟨rfl, ?_⟩
   exact (HM.out.pick (r := readerR b r) pk).upd
 by_cases hk : 0 < (takeL r.b).2 ∧ ((takeL r.b).1 : Int) ≤ g
 · obtain ⟨k, hkk⟩ : ∃ k : Nat, (takeL r.b).2 = k := ⟨(takeL r.b).2.toNat, by omega⟩
   obtain ⟨n, hn⟩ : ∃ n, (takeL r.b).1 = n := ⟨_, rfl⟩
   have ht : takeL r.b = (n, (k : Int)) := by rw [← hn, ← hkk]
   rw [hkk, hn] at hk
   have hq0 : r.num g = (⟨r.b.drop k, 0⟩, n, 0) := by
    unfold Rdr.num
    rw [if_neg hne, if_neg hg, ht, if_pos hk]
    rfl
   by_cases hn2 : n ≤ (r.b.drop k).length
   · have hq : r.txt g = (⟨(r.b.drop k).drop n, r.e⟩, (r.b.drop k).take n, 0) := by
      unfold Rdr.txt
      rw [hq0, hr]
      exact (if_neg (by simp)).trans (if_pos hn2)
     have HQ := Lib.hid hq
     clear hq hkk hn hq0 hne
     refine (try_any w1 b _ _ r ⟨(r.b.drop k).drop n, r.e⟩ _ _ true hr hen hC fun B w2 h2 => text1_ok w2 kr kg kn kl b g n k r HLL.out hg ht (by omega) hk.2 hn2 h2).mono ?_
     rintro e w2 ⟨rfl, hU⟩
     simp only [if_true] at hU ⊢
     obtain ⟨s, hs⟩ : ∃ s, (r.b.drop k).take n = s := ⟨_, rfl⟩
     obtain ⟨d, hd⟩ : ∃ d, (r.b.drop k).drop n = d := ⟨_, rfl⟩
     rw [hs, hd] at hU HQ
     clear hs hd
     replace HM := Lib.hid (hS _ _ hU).unlist
     simp only [List.cons_append, List.nil_append] at HM
     replace HM := Lib.hid (HM.out.pick (r := txtX kr kg kn kl b g s) pk).openTX
     clear hU hS hC C hen hmf
     clear hr hk ht hn2
     have hg' : decide (g < 0) = false := decide_eq_false hg
     have fM := HM.out.fa
     go_wp2_with fail
     all_goals clear fM
     refine nxt HM fun w3 M => ?_
     clear HM; have HM := M; clear M
     obtain ⟨Ahb, hb⟩ := HM.out.get (r := cellsR kn 9 [.string (bs s)]) pk
     have hc := hb.2.reads.1
     rw [HQ.out]
     refine bodyPost_ret (v := .tuple #[.string (bs s), .int .i64 _]) (by simp [results, Tryz.results284, go_sem, hc]; try rfl) rfl ⟨rfl, ?_⟩
     exact (HM.out.pick (r := readerR b ⟨d, r.e⟩) pk).upd
   · have hq : r.txt g = (Rdr.bad, [], 120) := by
      unfold Rdr.txt
      rw [hq0]
      exact (if_neg (by simp)).trans (if_neg hn2)
     have HQ := Lib.hid hq
     clear hq hkk hn hq0 hne
     refine (try_any w1 b _ _ r ⟨r.b.drop k, r.e⟩ _ _ false hr hen hC fun B w2 h2 => text1_bad2 w2 kr kg kn kl b g n k r HLL.out hg ht (by omega) hk.2 (by omega) h2).mono ?_
     rintro e w2 ⟨rfl, hU⟩
     simp only [Bool.false_eq_true, if_false] at hU ⊢
     replace HM := Lib.hid (hS _ _ hU).unlist
     simp only [List.cons_append, List.nil_append] at HM
     replace HM := Lib.hid (HM.out.pick (r := txtX kr kg kn kl b g []) pk).openTX
     clear hU hS hC C hen hmf
     clear hr hk ht hn2
     have fM := HM.out.fa
     go_wp2_with fail
     all_goals clear fM
     refine nxt HM fun w3 M => ?_
     clear HM; have HM := M; clear M
     obtain ⟨Ahb, hb⟩ := HM.out.get (r := cellsR kn 9 [.string (bs [])]) pk
     have hc := hb.2.reads.1
     rw [HQ.out]
     refine bodyPost_ret (v := .tuple #[.string (bs []), .int .i64 _]) (by simp [results, Tryz.results284, go_sem, hc]; try rfl) rfl ⟨rfl, ?_⟩
     exact (HM.out.pick (r := readerR b Rdr.bad) pk).upd
 · have hq : r.txt g = (Rdr.bad, [], 120) := by unfold Rdr.txt Rdr.num; rw [if_neg hne, if_neg hg, if_neg hk]; rfl
   have HQ := Lib.hid hq
   clear hq hne
   refine (try_any w1 b _ _ r r _ _ false hr hen hC fun B w2 h2 => text1_bad w2 kr kg kn kl b g r HLL.out hg hk h2).mono ?_
   rintro e w2 ⟨rfl, hU⟩
   simp only [Bool.false_eq_true, if_false] at hU ⊢
   replace HM := Lib.hid (hS _ _ hU).unlist
   simp only [List.cons_append, List.nil_append] at HM
   replace HM := Lib.hid (HM.out.pick (r := txtX kr kg kn kl b g []) pk).openTX
   clear hU hS hC C hen hmf
   clear hr hk
   have fM := HM.out.fa
   go_wp2_with fail
   all_goals clear fM
   refine nxt HM fun w3 M => ?_
   clear HM; have HM := M; clear M
   obtain ⟨Ahb, hb⟩ := HM.out.get (r := cellsR kn 9 [.string (bs [])]) pk
   have hc := hb.2.reads.1
   rw [HQ.out]
   refine bodyPost_ret (v := .tuple #[.string (bs []), .int .i64 _]) (by simp [results, Tryz.results284, go_sem, hc]; try rfl) rfl ⟨rfl, ?_⟩
   exact (HM.out.pick (r := readerR b Rdr.bad) pk).upd
end
end Go.Proofs.YtoadjbgpfihoiaaGreatDoor
