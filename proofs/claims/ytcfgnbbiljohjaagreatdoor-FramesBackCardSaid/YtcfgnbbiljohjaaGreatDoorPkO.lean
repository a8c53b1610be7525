/- Texts Read, DocAll, ReadsW, BackL, one behind the other. Conditions: as each says. -/
import Derived.Test.YtcfgnbbiljohjaaGreatDoorPkN
import Derived.BigFrameIn
import Derived.BigGuardIn
section
/- The first frame of bytes: what it says, by the program and by the document; the document's All. Conditions: bytes lie as 'Bytes' says; unicode/utf8's tables read as they are laid. -/
set_option linter.unusedVariables false
set_option linter.unusedSimpArgs false
set_option maxHeartbeats 4000000
set_option maxRecDepth 10000
namespace Go.Proofs.YtcfgnbbiljohjaaGreatDoor
open Go.RowKit
/-- what the first frame says -/
def readL (b : List UInt8) : Sd × Nat × Int :=
  if (splitL b).2.2 ≠ 0 ∨ (splitL b).2.1 = 0 then (Sd.of 0, 0, (splitL b).2.2) else
  if (parseL (splitL b).1).2 ≠ 0 then (Sd.of 0, 0, (parseL (splitL b).1).2) else ((parseL (splitL b).1).1, (splitL b).2.1, 0)
theorem parse_err (b : List UInt8) (h : (parseL b).2 ≠ 0) : (parseL b).1 = Sd.of 0 := by
  unfold parseL at h ⊢
  dsimp only at h ⊢
  split at h
  · exact absurd rfl h
  · rename_i hc
    rw [if_neg hc]
theorem readL_n (b : List UInt8) : (readL b).2.1 ≤ b.length := by
  have := splitL_n b
  unfold readL
  split
  · exact Nat.zero_le _
  · split
    · exact Nat.zero_le _
    · exact this
theorem allF_step (s : Nat) (b : List UInt8) : allOf (framesOf s (pieces b)) = if (readL b).2.2 ≠ 0 ∨ (readL b).2.1 = 0 then [] else (s + (readL b).2.1, (readL b).1) :: allOf (framesOf (s + (readL b).2.1) (pieces (b.drop (readL b).2.1))) := by
  rw [pieces_step b]
  by_cases h1 : (splitL b).2.2 ≠ 0
  · have hr : readL b = (Sd.of 0, 0, (splitL b).2.2) := by unfold readL; rw [if_pos (.inl h1)]
    rw [hr, if_pos h1, if_pos (.inl h1)]
    rfl
  · by_cases h2 : (splitL b).2.1 = 0
    · have hr : readL b = (Sd.of 0, 0, (splitL b).2.2) := by unfold readL; rw [if_pos (.inr h2)]
      rw [hr, if_neg h1, if_pos h2, if_pos (.inr rfl)]
      rfl
    · by_cases h3 : (parseL (splitL b).1).2 ≠ 0
      · have hr : readL b = (Sd.of 0, 0, (parseL (splitL b).1).2) := by unfold readL; rw [if_neg (fun h => h.elim h1 h2), if_pos h3]
        rw [hr, if_neg h1, if_neg h2, if_pos (.inr rfl)]
        unfold framesOf
        rw [if_neg h2]
        unfold allOf
        rw [if_pos h3]
      · have hr : readL b = ((parseL (splitL b).1).1, (splitL b).2.1, 0) := by unfold readL; rw [if_neg (fun h => h.elim h1 h2), if_neg h3]
        rw [hr, if_neg h1, if_neg h2, if_neg (fun h => h.elim (fun h => h rfl) h2)]
        conv => lhs; unfold framesOf
        rw [if_neg h2]
        conv => lhs; unfold allOf
        rw [if_neg h3]
theorem results_ctt {P : Program} {w : World} {fn : Func} {r s u : Nat} {ty : TypeId} {v : Value} {ad : Addr} (hr : fn.results = #[.cell r ty, .tmp s, .tmp u]) (tmps : Array Value) (h0 : tmps.getD r undef = .pointer (some ad)) (hl : (loadVar ty ad).run P w = .ok v w) :
    (results fn tmps).run P w = .ok (.tuple #[v, tmps.getD s undef, tmps.getD u undef]) w := by
  unfold results
  rw [hr]
  simp only [List.mapM_toArray, List.mapM_cons, List.mapM_nil]
  simp [h0, asAddr, hl, Sem.run_bind, Result.andThen]
theorem fread_any {A : Nat → Prop} (W w : World) (hT : Tabs W) (hE : Ext W w) (v : Value) (l : List UInt8) (h : Bytes w A v l) (hA : ∀ k, A k → k < w.heap.size) (hl : l.length ≤ 1099511627776) :
    Calls Tryz.prog 20 #[v] w fun e w' => e = .returned (.tuple #[(readL l).1.v, .int .i64 ((readL l).2.1 : Int), .int .i64 (readL l).2.2]) ∧ Ext w w' := by
  obtain ⟨a, c, rfl⟩ := h.len
  have HM := Lib.hid (Mem.start0 w)
  have HE := Lib.hid hE
  have HB := Lib.hid h
  have HA := Lib.hid hA
  have HLL := Lib.hid hl
  clear hE h hA hl
  obtain ⟨Z, hZ⟩ : ∃ Z, readL l = Z := ⟨_, rfl⟩
  rw [hZ]
  have hRL := hZ
  unfold readL at hRL
  have HZ := Lib.hid hRL
  clear hZ hRL
  go_enter Tryz.func20, Tryz.ntmps20
  have fM := HM.out.fa
  go_wp2_with fail
  all_goals clear fM
  refine nxt HM fun w1 M => ?_
  clear HM; have HM := M; clear M
  obtain ⟨k0, hk0⟩ : ∃ k, w.heap.size = k := ⟨_, rfl⟩
  rw [hk0] at HM ⊢
  clear hk0
  refine (split_any w1 (.slice a l.length c) l (HB.out.ext HM.out.extTo) (fun k hk => Nat.lt_of_lt_of_le (HA.out k hk) HM.out.extTo.size) HLL.out).mono ?_
  rintro e w2 ⟨⟨x, rfl, hx⟩, hE2⟩
  have hsb := splitL_b l
  obtain ⟨⟨sb, n, no⟩, hs⟩ : ∃ s, splitL l = s := ⟨_, rfl⟩
  rw [hs] at hx HZ hsb ⊢
  dsimp only at hx HZ hsb ⊢
  have HX := Lib.hid hx
  have HX2 := Lib.hid hsb
  replace HM := Lib.hid (HM.out.ext hE2)
  have hlt : ∀ k, New w1 w2 k → k < w2.heap.size := fun k hk => hk.2
  have HLT := Lib.hid hlt
  clear hx hsb hs hE2 hlt
  by_cases h1 : no = 0
  case neg =>
    have HQ := Lib.hid (show Z = (Sd.of 0, 0, no) by rw [← HZ.out, if_pos (.inl h1)])
    have d1 : (no != 0) = true := by simpa using h1
    clear h1
    have fM := HM.out.fa
    go_wp2_with fail
    all_goals clear fM
    refine nxt HM fun w9 M => ?_
    clear HM; have HM := M; clear M
    obtain ⟨Ahb, hb⟩ := HM.out.get (r := cellsR k0 27 [.int .i64 0, .int .i64 0, .int .i64 0, .int .i64 0, .bool false, .string ⟨#[]⟩, .string ⟨#[]⟩, .int .i64 0, .int .i64 0, .int .i64 0, .string ⟨#[]⟩]) (by repeat first | exact ph | apply pt)
    refine bodyPost_ret (results_ctt Tryz.results20 _ rfl (run_loadVar_row w9 _ _ 27 _ (0, 0) _ hb.2 Tryz.underlying27 rfl (by kernel_rfl))) rfl ?_
    exact ⟨by rw [HQ.out]; rfl, HM.out.extTo⟩
  subst h1
  by_cases h2 : n = 0
  · have HQ := Lib.hid (show Z = (Sd.of 0, 0, 0) by rw [← HZ.out, if_pos (.inr h2)])
    subst h2
    have fM := HM.out.fa
    go_wp2_with fail
    all_goals clear fM
    refine nxt HM fun w9 M => ?_
    clear HM; have HM := M; clear M
    obtain ⟨Ahb, hb⟩ := HM.out.get (r := cellsR k0 27 [.int .i64 0, .int .i64 0, .int .i64 0, .int .i64 0, .bool false, .string ⟨#[]⟩, .string ⟨#[]⟩, .int .i64 0, .int .i64 0, .int .i64 0, .string ⟨#[]⟩]) (by repeat first | exact ph | apply pt)
    refine bodyPost_ret (results_ctt Tryz.results20 _ rfl (run_loadVar_row w9 _ _ 27 _ (0, 0) _ hb.2 Tryz.underlying27 rfl (by kernel_rfl))) rfl ?_
    exact ⟨by rw [HQ.out]; rfl, HM.out.extTo⟩
  have hz2 := HZ.out
  rw [if_neg (fun h => h.elim (fun h => h rfl) h2)] at hz2
  replace HZ := Lib.hid hz2
  have d2 : ((n : Int) == 0) = false := by simp; omega
  clear hz2 h2
  have fM := HM.out.fa
  go_wp2_with fail
  all_goals clear fM
  clear d2
  refine (parse_any W _ hT (HE.out.ext HM.out.extTo) x sb HX.out (by have := HX2.out; have := HLL.out; omega)).mono ?_
  rintro e w3 ⟨rfl, hE3⟩
  have hpe := parse_err sb
  obtain ⟨⟨s, no⟩, hp⟩ : ∃ p, parseL sb = p := ⟨_, rfl⟩
  rw [hp] at HZ hpe ⊢
  dsimp only at HZ hpe ⊢
  replace HM := Lib.hid (HM.out.ext hE3)
  clear hE3 hp
  by_cases h3 : no = 0
  case neg =>
    have HQ := Lib.hid (show Z = (Sd.of 0, 0, no) by rw [← HZ.out, if_pos h3])
    have hs0 := hpe h3
    subst hs0
    have d3 : (no != 0) = true := by simpa using h3
    clear h3 hpe
    rw [show (Sd.of 0).v = .agg #[.int .i64 0, .int .i64 0, .int .i64 0, .int .i64 0, .bool false, .string ⟨#[]⟩, .string ⟨#[]⟩, .int .i64 0, .int .i64 0, .int .i64 0, .string ⟨#[]⟩] from rfl]
    have fM := HM.out.fa
    go_wp2_with fail
    all_goals clear fM
    refine nxt HM fun w9 M => ?_
    clear HM; have HM := M; clear M
    obtain ⟨Ahb, hb⟩ := HM.out.get (r := cellsR k0 27 [.int .i64 0, .int .i64 0, .int .i64 0, .int .i64 0, .bool false, .string ⟨#[]⟩, .string ⟨#[]⟩, .int .i64 0, .int .i64 0, .int .i64 0, .string ⟨#[]⟩]) (by repeat first | exact ph | apply pt)
    refine bodyPost_ret (results_ctt Tryz.results20 _ rfl (run_loadVar_row w9 _ _ 27 _ (0, 0) _ hb.2 Tryz.underlying27 rfl (by kernel_rfl))) rfl ?_
    exact ⟨by rw [HQ.out]; rfl, HM.out.extTo⟩
  subst h3
  have HQ := Lib.hid (show Z = (s, n, 0) by rw [← HZ.out, if_neg (fun h => h rfl)])
  clear hpe
  unfold Sd.v Sd.cells
  have fM := HM.out.fa
  go_wp2_with fail
  all_goals clear fM
  refine nxt HM fun w9 M => ?_
  clear HM; have HM := M; clear M
  obtain ⟨Ahb, hb⟩ := HM.out.get (r := cellsR k0 27 [.int .i64 s.kind, .int .i64 s.member, .int .i64 s.number, .int .i64 s.index, .bool s.is, .string (bs s.text), .string (bs s.token), .int .i64 s.e.kind, .int .i64 s.e.member, .int .i64 s.e.number, .string (bs s.e.text)]) (by repeat first | exact ph | apply pt)
  refine bodyPost_ret (results_ctt Tryz.results20 _ rfl (run_loadVar_row w9 _ _ 27 _ (0, 0) _ hb.2 Tryz.underlying27 rfl (by kernel_rfl))) rfl ?_
  exact ⟨by rw [HQ.out]; rfl, HM.out.extTo⟩
theorem docRead_any {A : Nat → Prop} (W w : World) (hT : Tabs W) (hE : Ext W w) (v : Value) (l : List UInt8) (h : Bytes w A v l) (hA : ∀ k, A k → k < w.heap.size) (hl : l.length ≤ 1099511627776) :
    Calls Tryz.prog 21 #[v] w fun e w' => e = .returned (.tuple #[(readL l).1.v, .int .i64 ((readL l).2.1 : Int), .int .i64 (readL l).2.2]) ∧ Ext w w' := by
  obtain ⟨a, c, rfl⟩ := h.len
  have HM := Lib.hid (Mem.start0 w)
  have HE := Lib.hid hE
  have HB := Lib.hid h
  have HA := Lib.hid hA
  have HLL := Lib.hid hl
  clear hE h hA hl
  obtain ⟨Z, hZ⟩ : ∃ Z, readL l = Z := ⟨_, rfl⟩
  rw [hZ]
  have hRL := hZ
  unfold readL at hRL
  have HZ := Lib.hid hRL
  clear hZ hRL
  go_enter Tryz.func21, Tryz.ntmps21
  have fM := HM.out.fa
  go_wp2_with fail
  all_goals clear fM
  refine nxt HM fun w1 M => ?_
  clear HM; have HM := M; clear M
  obtain ⟨k0, hk0⟩ : ∃ k, w.heap.size = k := ⟨_, rfl⟩
  rw [hk0] at HM ⊢
  clear hk0
  refine (rsplit_any w1 (.slice a l.length c) l (HB.out.ext HM.out.extTo) (fun k hk => Nat.lt_of_lt_of_le (HA.out k hk) HM.out.extTo.size) HLL.out).mono ?_
  rintro e w2 ⟨⟨x, rfl, hx⟩, hE2⟩
  have hsb := splitL_b l
  obtain ⟨⟨sb, n, no⟩, hs⟩ : ∃ s, splitL l = s := ⟨_, rfl⟩
  rw [hs] at hx HZ hsb ⊢
  dsimp only at hx HZ hsb ⊢
  have HX := Lib.hid hx
  have HX2 := Lib.hid hsb
  replace HM := Lib.hid (HM.out.ext hE2)
  have hlt : ∀ k, New w1 w2 k → k < w2.heap.size := fun k hk => hk.2
  have HLT := Lib.hid hlt
  clear hx hsb hs hE2 hlt
  by_cases h1 : no = 0
  case neg =>
    have HQ := Lib.hid (show Z = (Sd.of 0, 0, no) by rw [← HZ.out, if_pos (.inl h1)])
    have d1 : (no != 0) = true := by simpa using h1
    clear h1
    have fM := HM.out.fa
    go_wp2_with fail
    all_goals clear fM
    refine nxt HM fun w9 M => ?_
    clear HM; have HM := M; clear M
    obtain ⟨Ahb, hb⟩ := HM.out.get (r := cellsR k0 27 [.int .i64 0, .int .i64 0, .int .i64 0, .int .i64 0, .bool false, .string ⟨#[]⟩, .string ⟨#[]⟩, .int .i64 0, .int .i64 0, .int .i64 0, .string ⟨#[]⟩]) (by repeat first | exact ph | apply pt)
    refine bodyPost_ret (results_ctt Tryz.results21 _ rfl (run_loadVar_row w9 _ _ 27 _ (0, 0) _ hb.2 Tryz.underlying27 rfl (by kernel_rfl))) rfl ?_
    exact ⟨by rw [HQ.out]; rfl, HM.out.extTo⟩
  subst h1
  by_cases h2 : n = 0
  · have HQ := Lib.hid (show Z = (Sd.of 0, 0, 0) by rw [← HZ.out, if_pos (.inr h2)])
    subst h2
    have fM := HM.out.fa
    go_wp2_with fail
    all_goals clear fM
    refine nxt HM fun w9 M => ?_
    clear HM; have HM := M; clear M
    obtain ⟨Ahb, hb⟩ := HM.out.get (r := cellsR k0 27 [.int .i64 0, .int .i64 0, .int .i64 0, .int .i64 0, .bool false, .string ⟨#[]⟩, .string ⟨#[]⟩, .int .i64 0, .int .i64 0, .int .i64 0, .string ⟨#[]⟩]) (by repeat first | exact ph | apply pt)
    refine bodyPost_ret (results_ctt Tryz.results21 _ rfl (run_loadVar_row w9 _ _ 27 _ (0, 0) _ hb.2 Tryz.underlying27 rfl (by kernel_rfl))) rfl ?_
    exact ⟨by rw [HQ.out]; rfl, HM.out.extTo⟩
  have hz2 := HZ.out
  rw [if_neg (fun h => h.elim (fun h => h rfl) h2)] at hz2
  replace HZ := Lib.hid hz2
  have d2 : ((n : Int) == 0) = false := by simp; omega
  clear hz2 h2
  have fM := HM.out.fa
  go_wp2_with fail
  all_goals clear fM
  clear d2
  refine (docParse_any W _ hT (HE.out.ext HM.out.extTo) x sb HX.out HLT.out (by have := HX2.out; have := HLL.out; omega)).mono ?_
  rintro e w3 ⟨rfl, hE3⟩
  have hpe := parse_err sb
  obtain ⟨⟨s, no⟩, hp⟩ : ∃ p, parseL sb = p := ⟨_, rfl⟩
  rw [hp] at HZ hpe ⊢
  dsimp only at HZ hpe ⊢
  replace HM := Lib.hid (HM.out.ext hE3)
  clear hE3 hp
  by_cases h3 : no = 0
  case neg =>
    have HQ := Lib.hid (show Z = (Sd.of 0, 0, no) by rw [← HZ.out, if_pos h3])
    have hs0 := hpe h3
    subst hs0
    have d3 : (no != 0) = true := by simpa using h3
    clear h3 hpe
    rw [show (Sd.of 0).v = .agg #[.int .i64 0, .int .i64 0, .int .i64 0, .int .i64 0, .bool false, .string ⟨#[]⟩, .string ⟨#[]⟩, .int .i64 0, .int .i64 0, .int .i64 0, .string ⟨#[]⟩] from rfl]
    have fM := HM.out.fa
    go_wp2_with fail
    all_goals clear fM
    refine nxt HM fun w9 M => ?_
    clear HM; have HM := M; clear M
    obtain ⟨Ahb, hb⟩ := HM.out.get (r := cellsR k0 27 [.int .i64 0, .int .i64 0, .int .i64 0, .int .i64 0, .bool false, .string ⟨#[]⟩, .string ⟨#[]⟩, .int .i64 0, .int .i64 0, .int .i64 0, .string ⟨#[]⟩]) (by repeat first | exact ph | apply pt)
    refine bodyPost_ret (results_ctt Tryz.results21 _ rfl (run_loadVar_row w9 _ _ 27 _ (0, 0) _ hb.2 Tryz.underlying27 rfl (by kernel_rfl))) rfl ?_
    exact ⟨by rw [HQ.out]; rfl, HM.out.extTo⟩
  subst h3
  have HQ := Lib.hid (show Z = (s, n, 0) by rw [← HZ.out, if_neg (fun h => h rfl)])
  clear hpe
  unfold Sd.v Sd.cells
  have fM := HM.out.fa
  go_wp2_with fail
  all_goals clear fM
  refine nxt HM fun w9 M => ?_
  clear HM; have HM := M; clear M
  obtain ⟨Ahb, hb⟩ := HM.out.get (r := cellsR k0 27 [.int .i64 s.kind, .int .i64 s.member, .int .i64 s.number, .int .i64 s.index, .bool s.is, .string (bs s.text), .string (bs s.token), .int .i64 s.e.kind, .int .i64 s.e.member, .int .i64 s.e.number, .string (bs s.e.text)]) (by repeat first | exact ph | apply pt)
  refine bodyPost_ret (results_ctt Tryz.results21 _ rfl (run_loadVar_row w9 _ _ 27 _ (0, 0) _ hb.2 Tryz.underlying27 rfl (by kernel_rfl))) rfl ?_
  exact ⟨by rw [HQ.out]; rfl, HM.out.extTo⟩
end Go.Proofs.YtcfgnbbiljohjaaGreatDoor
end
section
/- The document's All: what a stream tells. Conditions: bytes lie as 'Bytes' says; unicode/utf8's tables read as they are laid. -/
set_option linter.unusedVariables false
set_option linter.unusedSimpArgs false
set_option maxHeartbeats 4000000
set_option maxRecDepth 10000
namespace Go.Proofs.YtcfgnbbiljohjaaGreatDoor
open Go.RowKit
def heE : Enc (Nat × Sd) where
  cells x := .int .i64 (x.1 : Int) :: x.2.cells
  sz := 12
  len _ := rfl
  one x u hu := by
    simp only [Sd.cells, List.mem_cons, List.not_mem_nil, or_false] at hu
    rcases hu with rfl | rfl | rfl | rfl | rfl | rfl | rfl | rfl | rfl | rfl | rfl | rfl <;> rfl
theorem infoHe : (Tryz.prog.info? 55).map (fun i => (i.zero, i.size, i.bytes)) = some (some (.agg #[.int .i64 0, .int .i64 0, .int .i64 0, .int .i64 0, .int .i64 0, .bool false, .string ⟨#[]⟩, .string ⟨#[]⟩, .int .i64 0, .int .i64 0, .int .i64 0, .string ⟨#[]⟩]), 12, 120) := by kernel_rfl
theorem add_he {F : Nat → Prop} {w0 w : World} {L : List Res} {v : Value} {l : List (Nat × Sd)} (ty : TypeId) (h : Mem F w0 w (rowR heE v l :: L)) (b c : Nat) (x : Nat × Sd) (hb : ∀ o, w.cell? ⟨b, o, none⟩ = (heE.cells x)[o]?) (hl : l.length < 1000000) :
    ∃ v' w', (Builtin.append_ #[49, 49] ty #[v, .slice (some ⟨b, 0, none⟩) 1 c]).run Tryz.prog w = .ok v' w' ∧ Mem F w0 w' (rowR heE v' (l ++ [x]) :: L) := by
  obtain ⟨i0, hi, hz0, hz1, hz2⟩ := info_parts infoHe
  exact Mem.rowAdd 49 49 ty 55 i0 _ 120 Tryz.underlying49 Tryz.underlying49 hi hz0 hz1 hz2 rfl h b c x hb (by simp [maxLen]; omega) (by omega)
theorem allF_len (s : Nat) : ∀ (f : Nat) (b : List UInt8), b.length < f → (allOf (framesOf s (pieces b))).length ≤ b.length := by
  intro f
  induction f generalizing s with
  | zero => intro b h; omega
  | succ f ih =>
    intro b h
    rw [allF_step]
    split
    · exact Nat.zero_le _
    · rename_i hc
      have hn := readL_n b
      have h0 : (readL b).2.1 ≠ 0 := fun h => hc (.inr h)
      have := ih (s + (readL b).2.1) (b.drop (readL b).2.1) (by rw [List.length_drop]; omega)
      rw [List.length_drop] at this
      rw [List.length_cons]
      omega
theorem allL_len (b : List UInt8) : (allL b).length ≤ b.length := allF_len 0 _ b (Nat.lt_succ_self _)
theorem docAll_any {A : Nat → Prop} (W w : World) (hT : Tabs W) (hE : Ext W w) (v : Value) (l : List UInt8) (h : Bytes w A v l) (hA : ∀ k, A k → k < w.heap.size) (hl : l.length ≤ 100000) :
    Calls Tryz.prog 22 #[v] w fun e w' => ∃ v', e = .returned v' ∧ Upd NoB w w' (rowR heE v' (allL l)) := by
  obtain ⟨a, c, rfl⟩ := h.len
  have HM := Lib.hid ((Mem.start0 w).nilRow (E := heE))
  have HE := Lib.hid hE
  have HB := Lib.hid h
  have HA := Lib.hid hA
  have HLL := Lib.hid hl
  have HCAP := Lib.hid h.cap
  clear hE h hA hl
  go_enter Tryz.func22, Tryz.ntmps22
  go_wp2_with fail
  go_loopw [3, 4] (fun s3 s4 wr => ∃ (n : Nat) (out : List (Nat × Sd)) (a2 : Option Addr) (c2 : Nat), s4 = .int .i64 n ∧ s3 = .slice a2 out.length c2 ∧ Hid (n ≤ l.length ∧ allL l = out ++ allOf (framesOf n (pieces (l.drop n)))) ∧ Hid (Mem NoB w wr [rowR heE (.slice a2 out.length c2) out])) (fun _ s4 _ => l.length - (intOf s4).toNat)
  case atStart => exact ⟨0, [], none, 0, rfl, rfl, Lib.hid ⟨Nat.zero_le _, rfl⟩, HM⟩
  case round =>
    clear HM
    obtain ⟨n, out, a2, c2, rfl, rfl, HN, HM⟩ := hrel
    by_cases hlt : n < l.length
    · have g1 : (n : Int) < l.length := by omega
      have hsl := fun W => slice_l W a l.length c n (by omega)
      have hpart := HB.out.part n l.length (by omega) (Nat.le_refl _)
      rw [List.take_length] at hpart
      obtain ⟨a3, c3, he3⟩ := hpart.len
      rw [he3] at hsl hpart
      obtain ⟨m, hm⟩ : ∃ m, l.drop n = m := ⟨_, rfl⟩
      have hml : m.length ≤ l.length := by rw [← hm, List.length_drop]; omega
      have hstep := allF_step n m
      have hnr := readL_n m
      have hnl : m.length = l.length - n := by rw [← hm, List.length_drop]
      rw [hm] at hsl hpart HN
      have HPT := Lib.hid hpart
      have HML := Lib.hid hml
      have HDR := Lib.hid hm
      have HNL := Lib.hid hnl
      have HRR := Lib.hid (And.intro hstep hnr)
      clear hpart he3 hm hml hnl hstep hnr
      go_wp2_with fail
      clear hsl
      refine (docRead_any W wr hT (HE.out.ext HM.out.extTo) _ m (HPT.out.ext HM.out.extTo) (fun k hk => Nat.lt_of_lt_of_le (HA.out k hk) HM.out.extTo.size) (by have := HML.out; have := HLL.out; omega)).mono ?_
      rintro e w2 ⟨rfl, hE2⟩
      replace HM := Lib.hid (HM.out.ext hE2)
      clear hE2
      obtain ⟨hstep, hnr⟩ := HRR.out
      have hnl := HNL.out
      obtain ⟨⟨s, k, no⟩, hr⟩ : ∃ z, readL m = z := ⟨_, rfl⟩
      rw [hr] at hstep hnr ⊢
      dsimp only at hstep hnr ⊢
      have HST := Lib.hid hstep
      have HNR := Lib.hid (show k ≤ l.length - n by omega)
      clear hstep hnr hnl hr
      unfold Sd.v Sd.cells
      by_cases h1 : no = 0
      case neg =>
        have hz := HN.out.2
        rw [HST.out, if_pos (.inl h1), List.append_nil] at hz
        have HZ := Lib.hid hz
        have d1 : (no != 0) = true := by simpa using h1
        clear h1 hz
        have fM := HM.out.fa
        go_wp2_with fail
        all_goals clear fM
        refine nxt HM fun w3 M => ?_
        clear HM; have HM := M; clear M
        go_ret
        rw [HZ.out]
        exact ⟨_, rfl, (HM.out.pick (r := rowR heE (.slice a2 out.length c2) out) (by with_reducible repeat first | exact ph | apply pt)).upd⟩
      subst h1
      by_cases h2 : k = 0
      · have hz := HN.out.2
        rw [HST.out, if_pos (.inr h2), List.append_nil] at hz
        have HZ := Lib.hid hz
        clear hz
        subst h2
        have fM := HM.out.fa
        go_wp2_with fail
        all_goals clear fM
        refine nxt HM fun w3 M => ?_
        clear HM; have HM := M; clear M
        go_ret
        rw [HZ.out]
        exact ⟨_, rfl, (HM.out.pick (r := rowR heE (.slice a2 out.length c2) out) (by with_reducible repeat first | exact ph | apply pt)).upd⟩
      have hz := HN.out.2
      rw [HST.out, if_neg (fun h => h.elim (fun h => h rfl) h2)] at hz
      have HZ := Lib.hid hz
      have d2 : ((k : Int) == 0) = false := by simp; omega
      have H2 := Lib.hid h2
      have hlen := allL_len l
      rw [hz, List.length_append, List.length_cons] at hlen
      have HOL := Lib.hid (show out.length < 1000000 by have := HLL.out; omega)
      clear hz h2 hlen
      obtain ⟨n2, hn2⟩ : ∃ n2, n + k = n2 := ⟨_, rfl⟩
      have hw : wrap64 ((n : Int) + (k : Int)) = (n2 : Int) := by
        have := HNR.out
        have := HLL.out
        rw [← hn2, Int.natCast_add]
        exact IntWalk.wrap64_in _ (by omega)
      have HN2 := Lib.hid hn2
      clear hn2
      have fM := HM.out.fa
      go_wp2_with (at_builtin; refine standing ?_)
      clear fM
      refine nxt HM fun w3 M => ?_
      clear HM; have HM := M; clear M
      obtain ⟨Ahb, hb⟩ := HM.out.get (r := cellsR (w2.heap.size + 1) 55 (heE.cells (n2, s))) (by repeat first | exact ph | apply pt)
      obtain ⟨v4, w4, hr, hm⟩ := add_he 49 (HM.out.pick (r := rowR heE (.slice a2 out.length c2) out) (by with_reducible repeat first | exact ph | apply pt)) (w2.heap.size + 1) 1 (n2, s) hb.2.reads.1 HOL.out
      obtain ⟨a4, c4, rfl⟩ := hm.fact fun A h => row_len h
      rw [List.length_append, List.length_singleton] at hm hr
      have hm2 : Mem NoB w w4 [rowR heE (.slice a4 (out.length + 1) c4) (out ++ [(n2, s)])] := Mem.sub hm (by repeat first | exact Sub.nil | refine Sub.cons (by with_reducible repeat first | exact ph | apply pt) ?_)
      replace HM := Lib.hid hm2
      refine ⟨?_⟩
      refine wpList_append_ran rfl _ _ hr rfl rfl rfl ?_
      clear hr hm hb hm2 Ahb
      have fM := HM.out.fa
      go_wp2_with fail
      all_goals clear fM
      go_roundw
      case rel => exact ⟨n2, out ++ [(n2, s)], a4, c4, by go_num, by rw [List.length_append, List.length_singleton], Lib.hid ⟨by have := HNR.out; have := HN2.out; omega, by rw [HZ.out, HN2.out, ← HDR.out, List.drop_drop, HN2.out]; simp⟩, by rw [List.length_append, List.length_singleton]; exact HM⟩
      case measure =>
        have h1 := HN2.out
        have h2 := H2.out
        have h3 := HNR.out
        simp [intOf]
        omega
    · have hz := HN.out.2
      rw [List.drop_eq_nil_of_le (by omega), allF_step, if_pos (.inr rfl), List.append_nil] at hz
      have HZ := Lib.hid hz
      have g1 : ¬ (n : Int) < l.length := by omega
      clear hz
      go_wp2_with fail
      go_ret
      rw [HZ.out]
      exact ⟨_, rfl, HM.out.upd⟩
end Go.Proofs.YtcfgnbbiljohjaaGreatDoor
end
section
/- FramesReads: the walk. Conditions: its bytes lie as 'Bytes' says; unicode/utf8's tables read as they are laid. -/
set_option linter.unusedVariables false
set_option linter.unusedSimpArgs false
set_option maxHeartbeats 4000000
set_option maxRecDepth 10000
namespace Go.Proofs.YtcfgnbbiljohjaaGreatDoor
open Go.RowKit
attribute [local go_sem] Oper.semAt_some
theorem all_nil (kb : Nat) (W : World) : (binOp .eql 52 (.func (.func 51) #[] #[.pointer (some ⟨kb, 0, none⟩)]) .nilFunc).run Tryz.prog W = .ok (.bool false) W := by kernel_rfl
theorem marks_all : ∀ (Ds : List Nat) {A : Nat → Prop} {w : World}, SepL (Ds.map markR) A w → Ds.Nodup ∧ ∀ D ∈ Ds, A D ∧ Mark w D
  | [], A, w, h => ⟨List.nodup_nil, fun D hD => by cases hD⟩
  | D :: Ds, A, w, ⟨B, C, h1, h2, h3, h4⟩ => by
    obtain ⟨i1, i2⟩ := marks_all Ds h2
    have hB : B D := (h1.1 D).2 rfl
    refine ⟨List.nodup_cons.2 ⟨fun h => h3 D hB (i2 D h).1, i1⟩, fun E hE => ?_⟩
    rcases List.mem_cons.1 hE with rfl | hE
    · exact ⟨(h4 E).2 (.inl hB), h1.2⟩
    · exact ⟨(h4 E).2 (.inr (i2 E hE).1), (i2 E hE).2⟩
theorem Mem.marks {F : Nat → Prop} {w0 w : World} {L : List Res} (Ds : List Nat) (h : Mem F w0 w (Ds.map markR ++ L)) : Ds.Nodup ∧ (∀ D ∈ Ds, Mark w D) ∧ ∀ w', Keeps (fun b => b ∈ Ds) w w' → Mem F w0 w' L := by
  obtain ⟨a, G, hs, c⟩ := h
  obtain ⟨A, B, h1, h2, h3, h4⟩ := hs.split
  obtain ⟨n1, n2⟩ := marks_all Ds h1
  refine ⟨n1, fun D hD => (n2 D hD).2, fun w' hk => ⟨a.then hk fun i hi h => ?_, B, h2.keeps hk fun k hB h => h3 k (n2 k h).1 hB, fun k hB => c k ((h4 k).2 (.inr hB))⟩⟩
  rcases c i ((h4 i).2 (.inl (n2 i h).1)) with h5 | h5
  · exact h5
  · omega
theorem meas_lt {L i : Nat} (h : i < L) {x : Int} (hx : x = (i : Int) + 1) : L - x.toNat < L - ((i : Int)).toNat := by omega
theorem Mem.bytAt {F : Nat → Prop} {w0 w : World} {L : List Res} {l : List UInt8} {g o n c : Nat} (h : Mem F w0 w (bytR (.slice (some ⟨g, o, none⟩) n c) l :: L)) (k : Nat) (hk : k < l.length) : w.cell? ⟨g, o + k, none⟩ = some (.int .u8 ((l[k]).toNat : Int)) := by
  obtain ⟨A, hb, -⟩ := h.byt
  rcases hb with ⟨a', h1, h2⟩ | ⟨b, o', c', h1, h2, h3, h4⟩
  · rw [h2] at hk; cases hk
  · simp only [Value.slice.injEq, Option.some.injEq, Addr.mk.injEq] at h1
    obtain ⟨⟨rfl, rfl, -⟩, -, -⟩ := h1
    have := h4 k hk
    rw [Nat.mul_one] at this
    exact this
theorem reads_walk (W : World) (v : Value) (l : List UInt8) (many : Int) (h : Bytes W (Old W) v l) (hT : Tabs W) : Calls Tryz.prog 7 #[v, .int .i64 many] W fun e w' => e = .returned (.bool true) ∧ Ext W w' := by
  obtain ⟨a, c, rfl⟩ := h.len
  have HM := Lib.hid (Mem.start0 W)
  have HV := Lib.hid h
  clear h
  refine (callsIn_wide (n := 9)).1 (callsIn_of_wp_marks Tryz.func7 rfl trivial ?_ rfl)
  simp only [Tryz.ntmps7, List.size_toArray, List.length_cons, List.length_nil, Nat.reduceAdd, Nat.reduceSub, Array.replicate_succ, Array.replicate_zero, List.push_toArray, List.append_toArray, List.nil_append, List.cons_append]
  refine wpIn_wide.2 ?_
  by_cases hl : l.length ≤ 2000
  case neg =>
    have h1 : (2000 : Int) < l.length := by omega
    clear hl
    have fM := HM.out.fa
    go_wp2_with fail
    all_goals clear fM
    refine (works_any W _ hT HM.out.to.extTo).mono ?_
    rintro e w2 ⟨rfl, hE2⟩
    replace HM := Lib.hid (HM.out.to.ext hE2)
    clear hE2
    have fM := HM.out.fa
    go_wp2_with fail
    all_goals clear fM
    refine nxt HM fun w4 M => ?_
    clear HM; have HM := M; clear M
    refine leaves_marks [] _ (by simp) (by simp) ?_
    intro w' hk
    have hE' : Ext w4 w' := hk.mono fun k _ h => by simp at h
    obtain ⟨Ahb, hb⟩ := HM.out.get (r := cellsR (W.heap.size + 1) 4 [.bool true]) (by with_reducible repeat first | exact ph | apply pt)
    have q0 := (hb.2.ext hE').reads.1
    exact ⟨.bool true, by simp [results, Tryz.results7, go_sem, q0], rfl, HM.out.extTo.ext hE'⟩
  have h1 : ¬ (2000 : Int) < l.length := by omega
  have HL := Lib.hid hl
  clear hl
  go_wp2_with (at_builtin; refine standing ?_)
  refine nxt HM fun w1 M => ?_
  clear HM; have HM := M; clear M
  replace HM := Lib.hid HM.out.bytEmpty
  obtain ⟨v5, w5, hr, hm⟩ := Mem.bytAdd 30 HM.out _ l (HV.out.ext HM.out.extTo) (by have := HL.out; simp; omega)
  rw [List.nil_append] at hm
  obtain ⟨a5, c5, rfl⟩ := hm.fact (fun A h => bytR.len h)
  replace HM := Lib.hid hm
  refine ⟨?_⟩
  refine wpList_append_ran rfl _ _ hr rfl rfl rfl ?_
  clear hr hm h1
  obtain ⟨km, hkm⟩ : ∃ k, W.heap.size = k := ⟨_, rfl⟩
  obtain ⟨kr, hkr⟩ : ∃ k, W.heap.size + 1 = k := ⟨_, rfl⟩
  rw [hkr, hkm] at HM ⊢
  clear hkm hkr
  have fM := HM.out.fa
  go_wp2_with fail
  all_goals clear fM
  obtain ⟨A5, hb5, hlt5⟩ := HM.out.byt
  refine (fread_any W w5 hT HM.out.extTo _ l hb5 hlt5 (by have := HL.out; omega)).mono ?_
  rintro e w6 ⟨rfl, hE2⟩
  obtain ⟨⟨s, n, no⟩, hz⟩ : ∃ z, readL l = z := ⟨_, rfl⟩
  have HZ := Lib.hid hz
  rw [hz]
  dsimp only
  replace HM := Lib.hid (HM.out.ext hE2)
  clear hE2 hb5 hlt5 hz
  clear A5
  unfold Sd.v Sd.cells
  have fM := HM.out.fa
  go_wp2_with fail
  all_goals clear fM
  refine nxt HM fun w7 M => ?_
  clear HM; have HM := M; clear M
  refine (docRead_any W w7 hT HM.out.extTo _ l (HV.out.ext HM.out.extTo) (fun k hk => Nat.lt_of_lt_of_le hk HM.out.extTo.size) (by have := HL.out; omega)).mono ?_
  rintro e w8 ⟨rfl, hE2⟩
  rw [HZ.out]
  dsimp only
  replace HM := Lib.hid (HM.out.ext hE2)
  clear hE2
  unfold Sd.v Sd.cells
  have hne := fun W => ne_sd s s W
  unfold Sd.v Sd.cells at hne
  rw [decide_eq_true rfl] at hne
  have fM := HM.out.fa
  go_wp2_with fail
  all_goals clear fM
  clear hne
  refine nxt HM fun w9 M => ?_
  clear HM; have HM := M; clear M
  refine (num_any _ _).mono ?_
  rintro r wq ⟨rfl, hwq⟩
  rw [hwq]
  clear hwq wq
  have fM := HM.out.fa
  go_wp2_with fail
  all_goals clear fM
  refine (docAll_any W w9 hT HM.out.extTo _ l (HV.out.ext HM.out.extTo) (fun k hk => Nat.lt_of_lt_of_le hk HM.out.extTo.size) (by have := HL.out; omega)).mono ?_
  rintro e w10 ⟨v10, rfl, hU⟩
  obtain ⟨F2, u1, u2, u3⟩ := hU
  obtain ⟨out, hout⟩ : ∃ out, allL l = out := ⟨_, rfl⟩
  have HOUT := Lib.hid hout
  rw [hout] at u1
  obtain ⟨a10, c10, rfl⟩ := row_len u1
  replace HM := Lib.hid (HM.out.new (r := rowR heE (.slice a10 out.length c10) out) (G := F2) u2 u1 (fun k hk => (u3 k hk).elim (fun h => (noB _ h).elim) id))
  clear u1 u2 u3 hout
  clear F2
  have fM := HM.out.fa
  go_wp2_with fail
  all_goals clear fM
  refine nxt HM fun w11 M => ?_
  clear HM; have HM := M; clear M
  obtain ⟨A5, hb5, hlt5⟩ := (HM.out.pick (r := bytR (.slice a5 l.length c5) l) (by with_reducible repeat first | exact ph | apply pt)).byt
  refine (all_any w11 a5 c5 l hb5 (by have := HL.out; omega)).mono ?_
  rintro e w12 ⟨kb, vb, rfl, F2, u1, u2, u3⟩
  have hm2 := (HM.out.new (r := listR [cellsR kb 30 [vb], bytR vb l]) (G := F2) u2 u1 (fun k hk => (u3 k hk).elim (fun h => (noB _ h).elim) id)).unlist
  simp only [List.cons_append, List.nil_append] at hm2
  replace HM := Lib.hid ((hm2.pick (r := bytR vb l) (by with_reducible repeat first | exact ph | apply pt)).turn (r' := readR vb l) fun A h => ⟨bytR.bytes h, bytR.lt h⟩)
  clear hb5 hlt5 u1 u2 u3 hm2
  clear F2 A5
  obtain ⟨k12, hk12⟩ : ∃ k, w10.heap.size = k := ⟨_, rfl⟩
  rw [hk12] at HM ⊢
  clear hk12
  replace HM := Lib.hid (Mem.sub (L' := [bytR (.slice a5 l.length c5) l, readR vb l, cellsR kb 30 [vb], cellsR k12 49 [.slice a10 out.length c10], rowR heE (.slice a10 out.length c10) out, cellsR km 3 [.int .i64 many], cellsR kr 4 [.bool false]]) HM.out (by repeat first | exact Sub.nil | refine Sub.cons (by with_reducible repeat first | exact ph | apply pt) ?_))
  go_wp2_with fail
  go_loopw [14] (fun s14 wr => ∃ (i : Nat) (l2 : List UInt8), s14 = .int .i64 i ∧ i ≤ l.length ∧ Hid (l2.length = l.length) ∧ Hid (Mem NoB W wr [bytR (.slice a5 l.length c5) l2, readR vb l, cellsR kb 30 [vb], cellsR k12 49 [.slice a10 out.length c10], rowR heE (.slice a10 out.length c10) out, cellsR km 3 [.int .i64 many], cellsR kr 4 [.bool false]])) (fun s14 _ => l.length - (intOf s14).toNat)
  case atStart => exact ⟨0, l, rfl, Nat.zero_le _, Lib.hid rfl, HM⟩
  case round =>
    clear HM
    obtain ⟨i, l2, rfl, hi, HL2, HM⟩ := hrel
    by_cases hlt : i < l.length
    · have g1 : (i : Int) < l.length := by omega
      have g2 : ¬ (i : Int) < 0 := by omega
      have hlt2 : i < l2.length := by rw [HL2.out]; exact hlt
      obtain ⟨g, o, rfl, -, -, -, hf⟩ := HM.out.bytForm i hlt2
      obtain ⟨x, hx⟩ : ∃ x, l2[i] = x := ⟨_, rfl⟩
      have hc : wr.cell? ⟨g, o + i, none⟩ = some (.int .u8 (x.toNat : Int)) := by rw [← hx]; exact HM.out.bytAt i hlt2
      have hw := byte_wrap x
      have hm := HM.out
      have hn : l.length = l2.length := HL2.out.symm
      rw [hn] at hm
      have hm2 := hm.bytSet i hlt2 (x + 1)
      rw [← hn] at hm2
      have HM2 := Lib.hid hm2
      have HLT2 := Lib.hid hlt2
      have hll : (l.length : Int) ≤ 2000 := by have := HL.out; omega
      clear hm hm2 hn hlt2 hx
      go_wp2_with fail
      clear hw
      go_roundw
      case rel => exact ⟨i + 1, l2.set i (x + 1), by go_num, by omega, Lib.hid (by rw [List.length_set]; exact HL2.out), HM2⟩
      case measure => simp [intOf]; omega
    · have g1 : ¬ (i : Int) < l.length := by omega
      go_wp2_with fail
      refine nxt HM fun w13 M => ?_
      clear HM; have HM := M; clear M
      have hnf := all_nil kb
      refine wp_loop_rounds 3 ?_
      rw [rounds_succ]
      have fM := HM.out.fa
      go_wp2_with fail
      all_goals clear fM
      obtain ⟨kt, hkt⟩ : ∃ k, wr.heap.size = k := ⟨_, rfl⟩
      rw [hkt] at HM ⊢
      clear hkt
      refine nxt HM fun w14 M => ?_
      clear HM; have HM := M; clear M
      obtain ⟨kn, hkn⟩ : ∃ k, w13.heap.size = k := ⟨_, rfl⟩
      rw [hkn] at HM ⊢
      clear hkn
      obtain ⟨R1, hR1⟩ : ∃ R1 : Nat → Res, R1 = fun (k : Nat) => condR (k = 0 ∨ (k : Int) < many) (listR [cellsR kn 3 [.int .i64 (k : Int)], cellsR kt 3 [.int .i64 0], cellsR k12 49 [.slice a10 out.length c10], rowR heE (.slice a10 out.length c10) out, cellsR km 3 [.int .i64 many]]) := ⟨_, rfl⟩
      obtain ⟨R2, hR2⟩ : ∃ R2 : Nat → Res, R2 = fun (k : Nat) => condR (many ≤ (k : Int) ∧ (k = 1 ∨ (k : Int) - 1 < many)) (listR [cellsR kn 3 [.int .i64 (k : Int)], cellsR kt 3 [.int .i64 0], cellsR k12 49 [.slice a10 out.length c10], rowR heE (.slice a10 out.length c10) out, cellsR km 3 [.int .i64 many]]) := ⟨_, rfl⟩
      have h1 := Mem.list' (L1 := [cellsR kn 3 [.int .i64 (0 : Int)], cellsR kt 3 [.int .i64 0], cellsR k12 49 [.slice a10 out.length c10], rowR heE (.slice a10 out.length c10) out, cellsR km 3 [.int .i64 many]]) (L := [readR vb l, cellsR kb 30 [vb], cellsR kr 4 [.bool false]]) (Mem.sub HM.out (by repeat first | exact Sub.nil | refine Sub.cons (by with_reducible repeat first | exact ph | apply pt) ?_))
      have h2 := h1.turn (r' := R1 0) fun A h => by rw [hR1]; exact ⟨by omega, h⟩
      have h3 := Mem.list' (L1 := [cellsR kb 30 [vb], readR vb l]) (L := [R1 0, cellsR kr 4 [.bool false]]) (Mem.sub h2 (by repeat first | exact Sub.nil | refine Sub.cons (by with_reducible repeat first | exact ph | apply pt) ?_))
      obtain ⟨C, hC, hCI, hS⟩ := Mem.stepN (L1 := [listR [cellsR kb 30 [vb], readR vb l], R1 0]) (L := [cellsR kr 4 [.bool false]]) h3
      have hx0 := tabX_ok.step (show TabX NoB W from ⟨hT, noB _, noB _⟩) hCI.1 hCI.2
      have HS := Lib.hid hS
      have HE2 := Lib.hid hCI
      have HR1 := Lib.hid hR1
      have HR2 := Lib.hid hR2
      clear h1 h2 h3 HM hS hR1 hR2 hCI
      have hit := (iter_all kb vb l (by have := HL.out; omega)).wide (m := 8)
      rw [HOUT.out] at hit
      refine (wpIn_wide (n := 9)).1 ?_
      refine wpIn_rangeR_break rfl (by omega) (gf := 51) (lb := #[.pointer (some ⟨kb, 0, none⟩)]) rfl trivial (enters_of Tryz.func51 (by kernel_rfl) rfl) saidV_ok tabX_ok hit (by rintro x v F W rfl; rfl) R1 R2 hC hx0 ?_ ?_
      · skip
        clear hC hit hx0
        intro k hk v F0 W2 _ hR hv hlt
        unfold SaidV at hv
        subst hv
        obtain ⟨⟨at1, y⟩, hp⟩ : ∃ p, out[k] = p := ⟨_, rfl⟩
        rw [hp]
        rw [HR1.out] at hR
        obtain ⟨hcond, hR⟩ := hR
        have HCO := Lib.hid hcond
        have hm0 := (Mem.start hR).unlist
        simp only [List.cons_append, List.nil_append] at hm0
        have HM := Lib.hid hm0
        have HPK := Lib.hid hp
        clear hR hm0 hcond hp
        unfold Sd.v Sd.cells
        dsimp only
        gi_wp2_with fail
        have hm := HM.out.to (w' := W2.alloc (Obj.cells #[.int .i64 y.kind, .int .i64 y.member, .int .i64 y.number, .int .i64 y.index, .bool y.is, .string (bs y.text), .string (bs y.token), .int .i64 y.e.kind, .int .i64 y.e.member, .int .i64 y.e.number, .string (bs y.e.text)] 27))
        refine ⟨_, hm.updAll, fun F1 W3 hK3 hR3 hv3 hlt3 => ?_⟩
        clear HM hm hv3 hK3
        obtain ⟨kx, hkx⟩ : ∃ k, W2.heap.size = k := ⟨_, rfl⟩
        rw [hkx] at hR3 ⊢
        have HM := Lib.hid (Mem.ofSep hR3)
        clear hR3 hkx
        obtain ⟨A9, h9⟩ := HM.out.get (r := rowR heE (.slice a10 out.length c10) out) (by with_reducible repeat first | exact ph | apply pt)
        obtain ⟨g, o, cap, hva, hcap, -, hcells⟩ := row_cells h9 (by omega)
        cases hva
        have hce := hcells k hk
        rw [HPK.out] at hce
        have f0 := hce 0 (by decide)
        have f1 := hce 1 (by decide)
        have f2 := hce 2 (by decide)
        have f3 := hce 3 (by decide)
        have f4 := hce 4 (by decide)
        have f5 := hce 5 (by decide)
        have f6 := hce 6 (by decide)
        have f7 := hce 7 (by decide)
        have f8 := hce 8 (by decide)
        have f9 := hce 9 (by decide)
        have f10 := hce 10 (by decide)
        have f11 := hce 11 (by decide)
        clear hce hcells h9 A9
        simp only [heE, Sd.cells, Nat.add_zero, List.getElem?_cons_zero, List.getElem?_cons_succ] at f0 f1 f2 f3 f4 f5 f6 f7 f8 f9 f10 f11
        have g0 : decide (out.length ≤ k) = false := by simp; omega
        have g1 : (k : Int) < (out.length : Int) := by omega
        have g2 : ¬ (k : Int) < 0 := by omega
        have hq1 := fun W => ne_sd y y W
        unfold Sd.v Sd.cells at hq1
        rw [decide_eq_true rfl] at hq1
        have fM := HM.out.fa
        gi_wp2_with fail
        have hE0 : Keeps NoB W3 W3.drew := (Keeps.refl _ _).drew
        refine wpIn_region_plan [(3, 0), (3, 1), (0, 2), (0, 3), (0, 4), (0, 5), (3, 6), (3, 7), (0, 8), (0, 9), (3, 10), (0, 11), (0, 12), (0, 13), (3, 14), (3, 15), (3, 16), (0, 17), (0, 18), (3, 19), (0, 20), (0, 21)] [] [] [] (ClsE W3) (by kernel_rfl) (by rintro ⟨_, _, h⟩; exact h) (by kernel_rfl) (by kernel_rfl) (plan3 [0, 0, 2, 7, 15, 31, 31, 31, 223, 479, 991, 2047, 4095, 8191, 16383, 16383, 16383, 114687, 245759, 507903, 1048575, 2097151] (by kernel_rfl) rfl (by kernel_rfl)) rfl rfl (ClsE.of hE0) (fun _ _ _ d _ h => by cases d <;> exact h) ?_; simp only [planL, nL]
        iterate 2 (refine pX (v := ?_) rfl ?_ ?_; rotate_left; (go_simp <;> with_reducible rfl); simp only [nP])
        iterate 2 (refine pR (v := ?_) rfl (fun W => ?_) ?_; rotate_left; (go_simp <;> with_reducible rfl); simp only [nP])
        refine pM _ rfl rfl ?_; simp only [nP, nE]
        (first | (refine plan_skip rfl ?_; simp only [nP]) | (refine pM _ rfl rfl ?_; simp only [nP, nE]))
        iterate 2 ((first | (refine plan_skip rfl ?_; simp only [nP]) | (refine pX (v := ?_) rfl ?_ ?_; rotate_left; (go_simp <;> with_reducible rfl); simp only [nP])))
        iterate 2 ((first | (refine plan_skip rfl ?_; simp only [nP]) | (refine pR (v := ?_) rfl (fun W => ?_) ?_; rotate_left; (go_simp <;> with_reducible rfl); simp only [nP])))
        (first | (refine plan_skip rfl ?_; simp only [nP]) | (refine pX (v := ?_) rfl ?_ ?_; rotate_left; (go_simp <;> with_reducible rfl); simp only [nP]))
        (first | (refine plan_skip rfl ?_; simp only [nP]) | (refine pR (v := ?_) rfl (fun W => ?_) ?_; rotate_left; (go_simp <;> with_reducible rfl); simp only [nP]))
        refine pR (v := ?_) rfl (fun W => ?_) ?_; rotate_left; (go_simp <;> with_reducible rfl); simp only [nP]
        refine pM _ rfl rfl ?_; simp only [nP, nE]
        iterate 3 ((first | (refine plan_skip rfl ?_; simp only [nP]) | (refine pX (v := ?_) rfl ?_ ?_; rotate_left; (go_simp <;> with_reducible rfl); simp only [nP])))
        iterate 2 ((first | (refine plan_skip rfl ?_; simp only [nP]) | (refine pR (v := ?_) rfl (fun W => ?_) ?_; rotate_left; (go_simp <;> with_reducible rfl); simp only [nP])))
        (first | (refine plan_skip rfl ?_; simp only [nP]) | (refine pX (v := ?_) rfl ?_ ?_; rotate_left; (go_simp <;> with_reducible rfl); simp only [nP]))
        (first | (refine plan_skip rfl ?_; simp only [nP]) | (refine pR (v := ?_) rfl (fun W => ?_) ?_; rotate_left; (go_simp <;> with_reducible rfl); simp only [nP]))
        refine pR (v := ?_) rfl (fun W => ?_) ?_; rotate_left; (go_simp <;> with_reducible rfl); simp only [nP]
        refine plan_nil ?_; simp only [tailL, List.filterMap_nil]
        go_wp2_with fail
        clear f0 f1 f2 f3 f4 f5 f6 f7 f8 f9 f10 f11 hq1
        have hol : (out.length : Int) ≤ 2000 := by have h9 := allL_len l; rw [HOUT.out] at h9; have := HL.out; omega
        by_cases hm : many ≤ (k : Int) + 1
        · gi_wp2_with fail
          clear fM
          have HMA := Lib.hid hm
          clear hm
          show Upd F1 W3 _ (condR _ (R2 (k + 1)))
          refine nxt HM fun W9 M => ?_
          clear HM; have HM := M; clear M
          rw [show ((k : Int) + 1) = ((k + 1 : Nat) : Int) from rfl] at HM
          rw [HR2.out]
          have g7 := Mem.list' (L1 := [cellsR kn 3 [.int .i64 ((k + 1 : Nat) : Int)], cellsR kt 3 [.int .i64 0], cellsR k12 49 [.slice (some ⟨g, o, none⟩) out.length c10], rowR heE (.slice (some ⟨g, o, none⟩) out.length c10) out, cellsR km 3 [.int .i64 many]]) (L := []) (Mem.sub HM.out (by repeat first | exact Sub.nil | refine Sub.cons (by with_reducible repeat first | exact ph | apply pt) ?_))
          have g8 : Mem F1 W3 W9 [condR (many ≤ ((k + 1 : Nat) : Int) ∧ (k + 1 = 1 ∨ ((k + 1 : Nat) : Int) - 1 < many)) _] := g7.turn fun A h => ⟨⟨by have := HMA.out; omega, by have := HCO.out; omega⟩, h⟩
          exact (g8.turn (r' := condR (Code.exit 4 = Code.exit 4) _) fun A h => ⟨rfl, h⟩).upd
        · gi_wp2_with fail
          clear fM
          have HMA := Lib.hid hm
          clear hm
          show Upd F1 W3 _ (R1 (k + 1))
          refine nxt HM fun W9 M => ?_
          clear HM; have HM := M; clear M
          rw [show ((k : Int) + 1) = ((k + 1 : Nat) : Int) from rfl] at HM
          rw [HR1.out]
          have g7 := Mem.list' (L1 := [cellsR kn 3 [.int .i64 ((k + 1 : Nat) : Int)], cellsR kt 3 [.int .i64 0], cellsR k12 49 [.slice (some ⟨g, o, none⟩) out.length c10], rowR heE (.slice (some ⟨g, o, none⟩) out.length c10) out, cellsR km 3 [.int .i64 many]]) (L := []) (Mem.sub HM.out (by repeat first | exact Sub.nil | refine Sub.cons (by with_reducible repeat first | exact ph | apply pt) ?_))
          exact (g7.turn (r' := condR _ _) fun A h => ⟨by have := HMA.out; omega, h⟩).upd
      · skip
        clear hC hit hx0
        intro W3 r hr hU
        have hm := (HS.out _ _ hU).unall
        simp only [List.cons_append, List.nil_append] at hm
        have hq : ∃ k2 : Nat, ((k2 : Int) = min (out.length : Int) (max 1 many)) ∧ Mem NoB W W3 ([cellsR kn 3 [.int .i64 (k2 : Int)], cellsR kt 3 [.int .i64 0], cellsR k12 49 [.slice a10 out.length c10], rowR heE (.slice a10 out.length c10) out, cellsR km 3 [.int .i64 many]] ++ [listR [cellsR kb 30 [vb], readR vb l], markR w14.heap.size, cellsR kr 4 [.bool false]]) := by
          rcases hr with rfl | ⟨k, hk, rfl⟩
          · have h1 := hm.pick (r := R1 out.length) (by with_reducible repeat first | exact ph | apply pt)
            rw [HR1.out] at h1
            have hc := h1.fact fun A h => h.1
            refine ⟨out.length, by omega, ?_⟩
            have h2 := (h1.turn (r' := listR [cellsR kn 3 [.int .i64 (out.length : Int)], cellsR kt 3 [.int .i64 0], cellsR k12 49 [.slice a10 out.length c10], rowR heE (.slice a10 out.length c10) out, cellsR km 3 [.int .i64 many]]) fun A h => h.2).unlist
            exact h2
          · have h1 := hm.pick (r := R2 (k + 1)) (by with_reducible repeat first | exact ph | apply pt)
            rw [HR2.out] at h1
            have hc := h1.fact fun A h => h.1
            refine ⟨k + 1, by omega, ?_⟩
            have h2 := (h1.turn (r' := listR [cellsR kn 3 [.int .i64 ((k + 1 : Nat) : Int)], cellsR kt 3 [.int .i64 0], cellsR k12 49 [.slice a10 out.length c10], rowR heE (.slice a10 out.length c10) out, cellsR km 3 [.int .i64 many]]) fun A h => h.2).unlist
            exact h2
        obtain ⟨k2, hk2, hm2⟩ := hq
        have HK2 := Lib.hid hk2
        simp only [List.cons_append, List.nil_append] at hm2
        have hm3 := (hm2.pick (r := listR [cellsR kb 30 [vb], readR vb l]) (by with_reducible repeat first | exact ph | apply pt)).unlist
        simp only [List.cons_append, List.nil_append] at hm3
        have HM := Lib.hid hm3
        clear hm hm2 hm3 hr hU hk2
        have d1 : ((k2 : Int) != min (out.length : Int) (max 1 many)) = false := by have := HK2.out; simp [this]
        have fM := HM.out.fa
        go_wp2_with fail
        all_goals clear fM
        clear d1 HE2 HS HR1 HR2 HK2
        clear R1 R2 C
        refine nxt HM fun w15 M => ?_
        clear HM; have HM := M; clear M
        obtain ⟨kt2, hkt2⟩ : ∃ k, W3.heap.size = k := ⟨_, rfl⟩
        obtain ⟨D0, hD0⟩ : ∃ k, w14.heap.size = k := ⟨_, rfl⟩
        rw [hkt2, hD0] at HM ⊢
        clear hkt2 hD0
        rw [rounds_succ]
        have fM := HM.out.fa
        go_wp2_with fail
        all_goals clear fM
        refine nxt HM fun w16 M => ?_
        clear HM; have HM := M; clear M
        obtain ⟨kn, hkn⟩ : ∃ k, w15.heap.size = k := ⟨_, rfl⟩
        rw [hkn] at HM ⊢
        clear hkn
        obtain ⟨R1, hR1⟩ : ∃ R1 : Nat → Res, R1 = fun (k : Nat) => condR (0 ≤ k) (listR [cellsR kn 3 [.int .i64 (k : Int)], cellsR kt2 3 [.int .i64 1], cellsR k12 49 [.slice a10 out.length c10], rowR heE (.slice a10 out.length c10) out, cellsR km 3 [.int .i64 many]]) := ⟨_, rfl⟩
        obtain ⟨R2, hR2⟩ : ∃ R2 : Nat → Res, R2 = fun (k : Nat) => condR (k < 0) (listR [cellsR kn 3 [.int .i64 (k : Int)], cellsR kt2 3 [.int .i64 1], cellsR k12 49 [.slice a10 out.length c10], rowR heE (.slice a10 out.length c10) out, cellsR km 3 [.int .i64 many]]) := ⟨_, rfl⟩
        have h1 := Mem.list' (L1 := [cellsR kn 3 [.int .i64 (0 : Int)], cellsR kt2 3 [.int .i64 1], cellsR k12 49 [.slice a10 out.length c10], rowR heE (.slice a10 out.length c10) out, cellsR km 3 [.int .i64 many]]) (L := [readR vb l, cellsR kb 30 [vb], cellsR kr 4 [.bool false], markR D0]) (Mem.sub HM.out (by repeat first | exact Sub.nil | refine Sub.cons (by with_reducible repeat first | exact ph | apply pt) ?_))
        have h2 := h1.turn (r' := R1 0) fun A h => by rw [hR1]; exact ⟨by omega, h⟩
        have h3 := Mem.list' (L1 := [cellsR kb 30 [vb], readR vb l]) (L := [R1 0, cellsR kr 4 [.bool false], markR D0]) (Mem.sub h2 (by repeat first | exact Sub.nil | refine Sub.cons (by with_reducible repeat first | exact ph | apply pt) ?_))
        obtain ⟨C, hC, hCI, hS⟩ := Mem.stepN (L1 := [listR [cellsR kb 30 [vb], readR vb l], R1 0]) (L := [cellsR kr 4 [.bool false], markR D0]) h3
        have hx0 := tabX_ok.step (show TabX NoB W from ⟨hT, noB _, noB _⟩) hCI.1 hCI.2
        have HS := Lib.hid hS
        have HE2 := Lib.hid hCI
        have HR1 := Lib.hid hR1
        have HR2 := Lib.hid hR2
        clear h1 h2 h3 HM hS hR1 hR2 hCI
        have hit := (iter_all kb vb l (by have := HL.out; omega)).wide (m := 8)
        rw [HOUT.out] at hit
        refine (wpIn_wide (n := 9)).1 ?_
        refine wpIn_rangeR_break rfl (by omega) (gf := 51) (lb := #[.pointer (some ⟨kb, 0, none⟩)]) rfl trivial (enters_of Tryz.func51 (by kernel_rfl) rfl) saidV_ok tabX_ok hit (by rintro x v F W rfl; rfl) R1 R2 hC hx0 ?_ ?_
        · skip
          clear hC hit hx0
          intro k hk v F0 W2 _ hR hv hlt
          unfold SaidV at hv
          subst hv
          obtain ⟨⟨at1, y⟩, hp⟩ : ∃ p, out[k] = p := ⟨_, rfl⟩
          rw [hp]
          rw [HR1.out] at hR
          obtain ⟨hcond, hR⟩ := hR
          have HCO := Lib.hid hcond
          have hm0 := (Mem.start hR).unlist
          simp only [List.cons_append, List.nil_append] at hm0
          have HM := Lib.hid hm0
          have HPK := Lib.hid hp
          clear hR hm0 hcond hp
          unfold Sd.v Sd.cells
          dsimp only
          gi_wp2_with fail
          have hm := HM.out.to (w' := W2.alloc (Obj.cells #[.int .i64 y.kind, .int .i64 y.member, .int .i64 y.number, .int .i64 y.index, .bool y.is, .string (bs y.text), .string (bs y.token), .int .i64 y.e.kind, .int .i64 y.e.member, .int .i64 y.e.number, .string (bs y.e.text)] 27))
          refine ⟨_, hm.updAll, fun F1 W3 hK3 hR3 hv3 hlt3 => ?_⟩
          clear HM hm hv3 hK3
          obtain ⟨kx, hkx⟩ : ∃ k, W2.heap.size = k := ⟨_, rfl⟩
          rw [hkx] at hR3 ⊢
          have HM := Lib.hid (Mem.ofSep hR3)
          clear hR3 hkx
          obtain ⟨A9, h9⟩ := HM.out.get (r := rowR heE (.slice a10 out.length c10) out) (by with_reducible repeat first | exact ph | apply pt)
          obtain ⟨g, o, cap, hva, hcap, -, hcells⟩ := row_cells h9 (by omega)
          cases hva
          have hce := hcells k hk
          rw [HPK.out] at hce
          have f0 := hce 0 (by decide)
          have f1 := hce 1 (by decide)
          have f2 := hce 2 (by decide)
          have f3 := hce 3 (by decide)
          have f4 := hce 4 (by decide)
          have f5 := hce 5 (by decide)
          have f6 := hce 6 (by decide)
          have f7 := hce 7 (by decide)
          have f8 := hce 8 (by decide)
          have f9 := hce 9 (by decide)
          have f10 := hce 10 (by decide)
          have f11 := hce 11 (by decide)
          clear hce hcells h9 A9
          simp only [heE, Sd.cells, Nat.add_zero, List.getElem?_cons_zero, List.getElem?_cons_succ] at f0 f1 f2 f3 f4 f5 f6 f7 f8 f9 f10 f11
          have g0 : decide (out.length ≤ k) = false := by simp; omega
          have g1 : (k : Int) < (out.length : Int) := by omega
          have g2 : ¬ (k : Int) < 0 := by omega
          have hq1 := fun W => ne_sd y y W
          unfold Sd.v Sd.cells at hq1
          rw [decide_eq_true rfl] at hq1
          have fM := HM.out.fa
          gi_wp2_with fail
          have hE0 : Keeps NoB W3 W3.drew := (Keeps.refl _ _).drew
          refine wpIn_region_plan [(3, 0), (3, 1), (0, 2), (0, 3), (0, 4), (0, 5), (3, 6), (3, 7), (0, 8), (0, 9), (3, 10), (0, 11), (0, 12), (0, 13), (3, 14), (3, 15), (3, 16), (0, 17), (0, 18), (3, 19), (0, 20), (0, 21)] [] [] [] (ClsE W3) (by kernel_rfl) (by rintro ⟨_, _, h⟩; exact h) (by kernel_rfl) (by kernel_rfl) (plan3 [0, 0, 2, 7, 15, 31, 31, 31, 223, 479, 991, 2047, 4095, 8191, 16383, 16383, 16383, 114687, 245759, 507903, 1048575, 2097151] (by kernel_rfl) rfl (by kernel_rfl)) rfl rfl (ClsE.of hE0) (fun _ _ _ d _ h => by cases d <;> exact h) ?_; simp only [planL, nL]
          iterate 2 (refine pX (v := ?_) rfl ?_ ?_; rotate_left; (go_simp <;> with_reducible rfl); simp only [nP])
          iterate 2 (refine pR (v := ?_) rfl (fun W => ?_) ?_; rotate_left; (go_simp <;> with_reducible rfl); simp only [nP])
          refine pM _ rfl rfl ?_; simp only [nP, nE]
          (first | (refine plan_skip rfl ?_; simp only [nP]) | (refine pM _ rfl rfl ?_; simp only [nP, nE]))
          iterate 2 ((first | (refine plan_skip rfl ?_; simp only [nP]) | (refine pX (v := ?_) rfl ?_ ?_; rotate_left; (go_simp <;> with_reducible rfl); simp only [nP])))
          iterate 2 ((first | (refine plan_skip rfl ?_; simp only [nP]) | (refine pR (v := ?_) rfl (fun W => ?_) ?_; rotate_left; (go_simp <;> with_reducible rfl); simp only [nP])))
          (first | (refine plan_skip rfl ?_; simp only [nP]) | (refine pX (v := ?_) rfl ?_ ?_; rotate_left; (go_simp <;> with_reducible rfl); simp only [nP]))
          (first | (refine plan_skip rfl ?_; simp only [nP]) | (refine pR (v := ?_) rfl (fun W => ?_) ?_; rotate_left; (go_simp <;> with_reducible rfl); simp only [nP]))
          refine pR (v := ?_) rfl (fun W => ?_) ?_; rotate_left; (go_simp <;> with_reducible rfl); simp only [nP]
          refine pM _ rfl rfl ?_; simp only [nP, nE]
          iterate 3 ((first | (refine plan_skip rfl ?_; simp only [nP]) | (refine pX (v := ?_) rfl ?_ ?_; rotate_left; (go_simp <;> with_reducible rfl); simp only [nP])))
          iterate 2 ((first | (refine plan_skip rfl ?_; simp only [nP]) | (refine pR (v := ?_) rfl (fun W => ?_) ?_; rotate_left; (go_simp <;> with_reducible rfl); simp only [nP])))
          (first | (refine plan_skip rfl ?_; simp only [nP]) | (refine pX (v := ?_) rfl ?_ ?_; rotate_left; (go_simp <;> with_reducible rfl); simp only [nP]))
          (first | (refine plan_skip rfl ?_; simp only [nP]) | (refine pR (v := ?_) rfl (fun W => ?_) ?_; rotate_left; (go_simp <;> with_reducible rfl); simp only [nP]))
          refine pR (v := ?_) rfl (fun W => ?_) ?_; rotate_left; (go_simp <;> with_reducible rfl); simp only [nP]
          refine plan_nil ?_; simp only [tailL, List.filterMap_nil]
          go_wp2_with fail
          clear f0 f1 f2 f3 f4 f5 f6 f7 f8 f9 f10 f11 hq1
          have hol : (out.length : Int) ≤ 2000 := by have h9 := allL_len l; rw [HOUT.out] at h9; have := HL.out; omega
          gi_wp2_with fail
          clear fM
          show Upd F1 W3 _ (R1 (k + 1))
          refine nxt HM fun W9 M => ?_
          clear HM; have HM := M; clear M
          rw [show ((k : Int) + 1) = ((k + 1 : Nat) : Int) from rfl] at HM
          rw [HR1.out]
          have g7 := Mem.list' (L1 := [cellsR kn 3 [.int .i64 ((k + 1 : Nat) : Int)], cellsR kt2 3 [.int .i64 1], cellsR k12 49 [.slice (some ⟨g, o, none⟩) out.length c10], rowR heE (.slice (some ⟨g, o, none⟩) out.length c10) out, cellsR km 3 [.int .i64 many]]) (L := []) (Mem.sub HM.out (by repeat first | exact Sub.nil | refine Sub.cons (by with_reducible repeat first | exact ph | apply pt) ?_))
          exact (g7.turn (r' := condR _ _) fun A h => ⟨Nat.zero_le _, h⟩).upd
        · skip
          clear hC hit hx0
          intro W3 r hr hU
          have hm := (HS.out _ _ hU).unall
          simp only [List.cons_append, List.nil_append] at hm
          have hq : ∃ k2 : Nat, (k2 = out.length) ∧ Mem NoB W W3 ([cellsR kn 3 [.int .i64 (k2 : Int)], cellsR kt2 3 [.int .i64 1], cellsR k12 49 [.slice a10 out.length c10], rowR heE (.slice a10 out.length c10) out, cellsR km 3 [.int .i64 many]] ++ [listR [cellsR kb 30 [vb], readR vb l], markR w16.heap.size, cellsR kr 4 [.bool false], markR D0]) := by
            rcases hr with rfl | ⟨k, hk, rfl⟩
            · have h1 := hm.pick (r := R1 out.length) (by with_reducible repeat first | exact ph | apply pt)
              rw [HR1.out] at h1
              have hc := h1.fact fun A h => h.1
              refine ⟨out.length, rfl, ?_⟩
              have h2 := (h1.turn (r' := listR [cellsR kn 3 [.int .i64 (out.length : Int)], cellsR kt2 3 [.int .i64 1], cellsR k12 49 [.slice a10 out.length c10], rowR heE (.slice a10 out.length c10) out, cellsR km 3 [.int .i64 many]]) fun A h => h.2).unlist
              exact h2
            · have h1 := hm.pick (r := R2 (k + 1)) (by with_reducible repeat first | exact ph | apply pt)
              rw [HR2.out] at h1
              have hc := h1.fact fun A h => h.1
              refine ⟨k + 1, absurd hc (by omega), ?_⟩
              have h2 := (h1.turn (r' := listR [cellsR kn 3 [.int .i64 ((k + 1 : Nat) : Int)], cellsR kt2 3 [.int .i64 1], cellsR k12 49 [.slice a10 out.length c10], rowR heE (.slice a10 out.length c10) out, cellsR km 3 [.int .i64 many]]) fun A h => h.2).unlist
              exact h2
          obtain ⟨k2, hk2, hm2⟩ := hq
          have HK2 := Lib.hid hk2
          simp only [List.cons_append, List.nil_append] at hm2
          have hm3 := (hm2.pick (r := listR [cellsR kb 30 [vb], readR vb l]) (by with_reducible repeat first | exact ph | apply pt)).unlist
          simp only [List.cons_append, List.nil_append] at hm3
          have HM := Lib.hid hm3
          clear hm hm2 hm3 hr hU hk2
          have d1 : ((k2 : Int) != (out.length : Int)) = false := by rw [HK2.out]; simp
          have fM := HM.out.fa
          go_wp2_with fail
          all_goals clear fM
          clear d1 HE2 HS HR1 HR2 HK2
          clear R1 R2 C
          obtain ⟨D1, hD1⟩ : ∃ k, w16.heap.size = k := ⟨_, rfl⟩
          rw [hD1] at HM ⊢
          clear hD1
          refine nxt HM fun w17 M => ?_
          clear HM; have HM := M; clear M
          rw [rounds_succ]
          have fM := HM.out.fa
          go_wp2_with fail
          all_goals clear fM
          refine nxt HM fun w18 M => ?_
          clear HM; have HM := M; clear M
          refine (works_any W w18 hT HM.out.extTo).mono ?_
          rintro e w19 ⟨rfl, hE3⟩
          replace HM := Lib.hid (HM.out.ext hE3)
          clear hE3
          have fM := HM.out.fa
          go_wp2_with fail
          all_goals clear fM
          refine nxt HM fun w20 M => ?_
          clear HM; have HM := M; clear M
          obtain ⟨hn, hmk, hun⟩ := Mem.marks [D1, D0] (L := [cellsR kr 4 [.bool true]]) (Mem.sub HM.out (by repeat first | exact Sub.nil | refine Sub.cons (by with_reducible repeat first | exact ph | apply pt) ?_))
          refine leaves_marks [D1, D0] _ hn hmk ?_
          intro w' hk
          have hm := hun w' hk
          obtain ⟨Ab, hb⟩ := hm.get (r := cellsR kr 4 [.bool true]) (by with_reducible repeat first | exact ph | apply pt)
          have q0 := hb.2.reads.1
          exact ⟨.bool true, by simp [results, Tryz.results7, go_sem, q0], rfl, hm.extTo⟩
end Go.Proofs.YtcfgnbbiljohjaaGreatDoor
end
section
/- What is said comes back: plain laws of frames, bodies, and streams. No program is named here. -/
set_option linter.unusedVariables false
set_option linter.unusedSimpArgs false
set_option maxHeartbeats 1000000
namespace Go.Proofs.YtcfgnbbiljohjaaGreatDoor
open Go.RowKit
theorem splitL_take (l : List UInt8) (h0 : (splitL l).2.2 = 0) (hn : (splitL l).2.1 ≠ 0) : frameL (splitL l).1 = l.take (splitL l).2.1 := by
  unfold splitL at h0 hn ⊢
  split at h0
  · rename_i h1
    rw [if_pos h1] at hn
    exact absurd rfl hn
  · rename_i h1
    rw [if_neg h1] at hn ⊢
    split at h0
    · exact absurd h0 (by decide)
    · rename_i h2
      rw [if_neg h2] at hn ⊢
      split at h0
      · rename_i h3
        rw [if_pos h3] at hn
        exact absurd rfl hn
      · rename_i h3
        rw [if_neg h3] at hn ⊢
        split at h0
        · exact absurd h0 (by decide)
        · rename_i m hm
          dsimp only
          have hk := takeL_k l
          have hk0 : 0 < (takeL l).2 := by omega
          have ho := open_some hm
          have hl := congrArg List.length ho
          rw [sealL_len, List.length_take, List.length_drop] at hl
          have hml : m.length + 4 = (takeL l).1 := by omega
          unfold frameL
          rw [hml, ← ho, ← numL_take hk0, ← List.take_add]
theorem splitL_app {m : List UInt8} (h : m.length ≤ 4096) (r : List UInt8) : splitL (frameL m ++ r) = (m, (frameL m).length, 0) := by
  have h1 := takeL_num (n := m.length + 4) (by unfold topN; omega) (sealL m ++ r)
  have h2 := numL_len (m.length + 4)
  have hf : frameL m ++ r = numL (m.length + 4) ++ (sealL m ++ r) := by unfold frameL; rw [List.append_assoc]
  have hd : (frameL m ++ r).drop (numL (m.length + 4)).length = sealL m ++ r := by rw [hf]; exact List.drop_left' rfl
  have ht : (sealL m ++ r).take (m.length + 4) = sealL m := List.take_left' (sealL_len m)
  unfold splitL
  rw [hf, h1, ← hf]
  dsimp only
  rw [if_neg (by omega), if_neg (by omega), Int.toNat_natCast, hd, ht, open_seal, if_neg (by
    rw [hf, List.length_append, List.length_append, sealL_len]; omega)]
  dsimp only
  unfold frameL
  rw [List.length_append, sealL_len]
/-! what was laid is taken -/
theorem num_back (n : Nat) (g : Int) (hg : (n : Int) ≤ g) (ht : n ≤ topN) (r : List UInt8) : (⟨numL n ++ r, 0⟩ : Rdr).num g = (⟨r, 0⟩, n, 0) := by
  have h1 := takeL_num ht r
  have h2 := numL_len n
  unfold Rdr.num
  rw [if_neg (by simp), if_neg (by omega)]
  dsimp only
  rw [h1]
  dsimp only
  rw [if_pos ⟨by omega, hg⟩, Int.toNat_natCast, List.drop_left' rfl]
theorem txt_back (s : List UInt8) (hs : s.length ≤ 200) (r : List UInt8) : (⟨txtL s ++ r, 0⟩ : Rdr).txt 200 = (⟨r, 0⟩, s, 0) := by
  have h1 : (⟨txtL s ++ r, 0⟩ : Rdr).num 200 = (⟨s ++ r, 0⟩, s.length, 0) := by
    unfold txtL
    rw [List.append_assoc]
    exact num_back s.length 200 (by omega) (by unfold topN; omega) _
  unfold Rdr.txt
  rw [h1]
  dsimp only
  rw [if_neg (by simp), if_pos (by rw [List.length_append]; omega), List.drop_left' rfl, List.take_left' rfl]
theorem tru_back (b : Bool) (r : List UInt8) : (⟨truL b ++ r, 0⟩ : Rdr).tru = (⟨r, 0⟩, b, 0) := by
  cases b <;> rfl
theorem entry_back (e : En) (x : Sd) (hx : x.e = En0) (hk : e.kind ≠ 1) (h : enB e = true) (s : Sd) (hs : s.e = e) (r : List UInt8) : Part.entry.take ⟨Part.entry.lay s ++ r, 0⟩ x = (⟨r, 0⟩, { x with e := e }) := by
  obtain ⟨⟨k0, k4⟩, ⟨m0, m15⟩, h4⟩ := enB_bounds hk h
  have hne : e.kind ≠ 4 → e.number = 0 ∧ e.text = [] := fun h5 => by
    unfold enB at h
    simp [hk, h5] at h
    have h6 := h.2.2
    unfold aloneB at h6
    have h7 := of_decide_eq_true h6
    exact ⟨congrArg En.number h7, congrArg En.text h7⟩
  obtain ⟨k, m, n, t⟩ := e
  dsimp only at k0 k4 m0 m15 h4 hne
  obtain ⟨k, rfl⟩ := Int.eq_ofNat_of_zero_le k0
  obtain ⟨m, rfl⟩ := Int.eq_ofNat_of_zero_le m0
  unfold Part.take Part.lay
  dsimp only
  rw [hs]
  dsimp only
  rw [Int.toNat_natCast, Int.toNat_natCast]
  by_cases h5 : (k : Int) = 4
  · obtain ⟨a1, a2, a3⟩ := h4 h5
    obtain ⟨n, rfl⟩ := Int.eq_ofNat_of_zero_le a1
    rw [if_pos h5, Int.toNat_natCast]
    rw [show numL k ++ numL m ++ (numL n ++ txtL t) ++ r = numL k ++ (numL m ++ (numL n ++ (txtL t ++ r))) by simp]
    rw [num_back k 4 (by omega) (by unfold topN; omega)]
    dsimp only
    rw [num_back m 15 (by omega) (by unfold topN; omega)]
    dsimp only
    rw [if_pos (by omega), num_back n 2147483647 (by omega) (by unfold topN; omega)]
    dsimp only
    rw [txt_back t a3]
  · obtain ⟨b1, b2⟩ := hne h5
    subst b1 b2
    rw [if_neg h5]
    rw [show numL k ++ numL m ++ [] ++ r = numL k ++ (numL m ++ r) by simp]
    rw [num_back k 4 (by omega) (by unfold topN; omega)]
    dsimp only
    rw [num_back m 15 (by omega) (by unfold topN; omega)]
    dsimp only
    rw [if_neg (by omega), hx]
    rfl
theorem take_back (p : Part) (s x : Sd) (hm : p.may s = true) (hb : bndB s = true) (ht : s.text.length ≤ 200 ∨ p ≠ .said) (hx : x.e = En0) (r : List UInt8) : p.take ⟨p.lay s ++ r, 0⟩ x = (⟨r, 0⟩, p.keep s x) := by
  obtain ⟨g1, g2, g3, g4, g5, g6, g7⟩ := (bnd_iff s).1 hb
  cases p
  · unfold Part.take Part.lay Part.keep
    dsimp only
    rw [num_back s.member.toNat 15 (by omega) (by unfold topN; omega)]
    dsimp only
    rw [Int.toNat_of_nonneg g1]
  · unfold Part.take Part.lay Part.keep
    dsimp only
    rw [num_back s.number.toNat 2147483647 (by omega) (by unfold topN; omega)]
    dsimp only
    rw [Int.toNat_of_nonneg g3]
  · unfold Part.take Part.lay Part.keep
    dsimp only
    rw [num_back s.index.toNat 2147483647 (by omega) (by unfold topN; omega)]
    dsimp only
    rw [Int.toNat_of_nonneg g5]
  · unfold Part.take Part.lay Part.keep
    dsimp only
    rw [tru_back]
  · unfold Part.take Part.lay Part.keep
    dsimp only
    rw [txt_back s.text (ht.resolve_right (fun h => h rfl))]
  · unfold Part.take Part.lay Part.keep
    dsimp only
    rw [txt_back s.token g7]
  · unfold Part.may at hm
    simp only [Bool.and_eq_true, decide_eq_true_eq] at hm
    exact entry_back s.e x hx hm.1 hm.2 s rfl r
theorem Part.keep_e (p : Part) (s x : Sd) (h : p ≠ .entry) : (p.keep s x).e = x.e := by
  cases p <;> first | rfl | exact absurd rfl h
theorem takeAll_back (s : Sd) (hb : bndB s = true) : ∀ (ps : List Part) (x : Sd) (r : List UInt8), (ps.all fun p => p.may s) = true → (ps.map Part.slot).Nodup → (.said ∈ ps → s.text.length ≤ 200) → (.entry ∈ ps → x.e = En0) → x.e = En0 →
    takeAll ps ⟨(ps.map fun p => p.lay s).flatten ++ r, 0⟩ x = (⟨r, 0⟩, ps.foldl (fun x p => p.keep s x) x)
  | [], x, r, _, _, _, _, _ => rfl
  | p :: ps, x, r, hm, hn, ht, he, hx => by
    rw [List.all_cons, Bool.and_eq_true] at hm
    rw [List.map_cons, List.nodup_cons] at hn
    rw [takeAll_cons, List.map_cons, List.flatten_cons, List.append_assoc, take_back p s x hm.1 hb (by
      by_cases h : p = .said
      · exact .inl (ht (by rw [h]; exact List.mem_cons_self ..))
      · exact .inr h) hx]
    dsimp only
    by_cases hpe : p = .entry
    · have hne : ∀ q ∈ ps, q ≠ .entry := fun q hq e => hn.1 (by rw [hpe, ← e]; exact List.mem_map_of_mem hq)
      exact takeAll_tail s hb ps (p.keep s x) r hm.2 (fun h => ht (List.mem_cons_of_mem _ h)) hne
    · exact takeAll_back s hb ps (p.keep s x) r hm.2 hn.2 (fun h => ht (List.mem_cons_of_mem _ h)) (fun _ => by rw [p.keep_e s x hpe]; exact hx) (by rw [p.keep_e s x hpe]; exact hx)
where
  takeAll_tail (s : Sd) (hb : bndB s = true) : ∀ (ps : List Part) (x : Sd) (r : List UInt8), (ps.all fun p => p.may s) = true → (.said ∈ ps → s.text.length ≤ 200) → (∀ q ∈ ps, q ≠ .entry) →
      takeAll ps ⟨(ps.map fun p => p.lay s).flatten ++ r, 0⟩ x = (⟨r, 0⟩, ps.foldl (fun x p => p.keep s x) x)
    | [], x, r, _, _, _ => rfl
    | p :: ps, x, r, hm, ht, hne => by
      rw [List.all_cons, Bool.and_eq_true] at hm
      have hp := hne p (List.mem_cons_self ..)
      have hte : p.take ⟨p.lay s ++ ((ps.map fun p => p.lay s).flatten ++ r), 0⟩ x = (⟨(ps.map fun p => p.lay s).flatten ++ r, 0⟩, p.keep s x) := by
        have h1 := take_back p s { x with e := En0 } hm.1 hb (by
          by_cases h : p = .said
          · exact .inl (ht (by rw [h]; exact List.mem_cons_self ..))
          · exact .inr h) rfl ((ps.map fun p => p.lay s).flatten ++ r)
        cases p <;> first | exact absurd rfl hp | (unfold Part.take Part.keep at h1 ⊢; dsimp only at h1 ⊢; simp only [Prod.mk.injEq, Sd.mk.injEq, true_and, and_true] at h1 ⊢; exact h1)
      rw [takeAll_cons, List.map_cons, List.flatten_cons, List.append_assoc, hte]
      exact takeAll_tail s hb ps (p.keep s x) r hm.2 (fun h => ht (List.mem_cons_of_mem _ h)) (fun q hq => hne q (List.mem_cons_of_mem _ hq))
theorem parse_body (s : Sd) (h : sdB s = true) : parseL (bodyL s) = (s, 0) := by
  have h0 := h
  rw [← right_eq] at h0
  simp only [Bool.and_eq_true, decide_eq_true_eq] at h0
  obtain ⟨⟨⟨hk, hlone⟩, hbd⟩, hown⟩ := h0
  obtain ⟨ps, hps, hall⟩ : ∃ ps, partsOf s.kind = some ps ∧ (ps.all fun p => p.may s) = true := by
    unfold sdB at h
    split at h
    · cases h
    · rename_i ps hps
      rw [Bool.and_eq_true] at h
      exact ⟨ps, hps, h.2⟩
  have hnd := partsOf_nodup s.kind
  rw [hps] at hnd
  have ht : .said ∈ ps → s.text.length ≤ 200 := fun hmem => by
    have := List.all_eq_true.1 hall _ hmem
    unfold Part.may at this
    exact chk_200 (by simpa using this)
  have hkn : ((s.kind.toNat : Nat) : Int) = s.kind := Int.toNat_of_nonneg (by omega)
  have hnum := num_back s.kind.toNat 12 (by omega) (by unfold topN; omega) ((ps.map fun p => p.lay s).flatten)
  have htk := takeAll_back s hbd ps (Sd.of s.kind) [] hall hnd ht (fun _ => rfl) rfl
  rw [List.append_nil] at htk
  have hlo : ps.foldl (fun x p => p.keep s x) (Sd.of s.kind) = s := by
    conv => rhs; rw [hlone]
    unfold loneS
    rw [hps]
    rfl
  rw [hlo] at htk
  have hbo : bodyL s = numL s.kind.toNat ++ (ps.map fun p => p.lay s).flatten := by unfold bodyL; rw [hps]; rfl
  unfold parseL
  rw [hbo, hnum]
  dsimp only
  rw [hkn, hps, Option.getD_some, htk]
  rw [if_pos ⟨rfl, rfl, rfl, h⟩]
/-- where what is said ends -/
def endsL : Nat → List Sd → List (Nat × Sd)
  | _, [] => []
  | n, s :: l => (n + (frameL (bodyL s)).length, s) :: endsL (n + (frameL (bodyL s)).length) l
def rawsL (l : List Sd) : List UInt8 := (l.map fun s => frameL (bodyL s)).flatten
theorem readL_app (s : Sd) (h : sdB s = true) (r : List UInt8) : readL (frameL (bodyL s) ++ r) = (s, (frameL (bodyL s)).length, 0) := by
  have hb := body_len s h
  have h1 := splitL_app (m := bodyL s) (by omega) r
  have h2 : (frameL (bodyL s)).length ≠ 0 := by
    have := numL_len ((bodyL s).length + 4)
    unfold frameL
    rw [List.length_append]
    omega
  unfold readL
  rw [h1]
  dsimp only
  rw [if_neg (fun g => g.elim (fun g => g rfl) h2), parse_body s h, if_neg (fun g => g rfl)]
theorem all_raws : ∀ (l : List Sd) (n : Nat), (∀ s ∈ l, sdB s = true) → allOf (framesOf n (pieces (rawsL l))) = endsL n l
  | [], n, _ => by
    rw [allF_step]
    have : readL (rawsL []) = (Sd.of 0, 0, 0) := by decide +kernel
    rw [this, if_pos (.inr rfl)]
    rfl
  | s :: l, n, h => by
    have hr : rawsL (s :: l) = frameL (bodyL s) ++ rawsL l := by unfold rawsL; rw [List.map_cons, List.flatten_cons]
    have h1 := readL_app s (h s (List.mem_cons_self ..)) (rawsL l)
    have h2 : (frameL (bodyL s)).length ≠ 0 := by
      have := numL_len ((bodyL s).length + 4)
      unfold frameL
      rw [List.length_append]
      omega
    rw [allF_step, hr, h1]
    dsimp only
    rw [if_neg (fun g => g.elim (fun g => g rfl) h2), List.drop_left' rfl, all_raws l _ (fun x hx => h x (List.mem_cons_of_mem _ hx))]
    rfl
theorem allL_raws (l : List Sd) (h : ∀ s ∈ l, sdB s = true) : allL (rawsL l) = endsL 0 l := all_raws l 0 h
/-- what is read, said again, has the same bytes -/
theorem readL_raw (b : List UInt8) (h0 : (readL b).2.2 = 0) (hn : (readL b).2.1 ≠ 0) : sdB (readL b).1 = true ∧ frameL (bodyL (readL b).1) = b.take (readL b).2.1 := by
  unfold readL at h0 hn ⊢
  split at h0
  · rename_i h1
    rw [if_pos h1] at hn
    exact absurd rfl hn
  · rename_i h1
    rw [if_neg h1] at hn ⊢
    split at h0
    · rename_i h2
      exact absurd h0 h2
    · rename_i h2
      rw [if_neg h2] at hn ⊢
      dsimp only at hn ⊢
      have h3 := parse_back _ (Classical.byContradiction h2)
      refine ⟨h3.2, ?_⟩
      rw [h3.1]
      exact splitL_take b (Classical.byContradiction fun g => h1 (.inl g)) hn
theorem endsL_len : ∀ (n : Nat) (l : List Sd), (endsL n l).length = l.length
  | _, [] => rfl
  | n, s :: l => by unfold endsL; rw [List.length_cons, endsL_len, List.length_cons]
theorem endsL_get : ∀ (n : Nat) (l : List Sd) (k : Nat) (p : Nat × Sd), (endsL n l)[k]? = some p → l[k]? = some p.2 ∧ (k + 1 = l.length → p.1 = n + (rawsL l).length)
  | _, [], k, p, h => by cases h
  | n, s :: l, 0, p, h => by
    unfold endsL at h
    rw [List.getElem?_cons_zero] at h
    cases h
    refine ⟨rfl, fun h => ?_⟩
    obtain rfl : l = [] := List.eq_nil_of_length_eq_zero (by simpa using h.symm)
    simp [rawsL]
  | n, s :: l, k + 1, p, h => by
    unfold endsL at h
    rw [List.getElem?_cons_succ] at h
    obtain ⟨h1, h2⟩ := endsL_get _ l k p h
    refine ⟨by rw [List.getElem?_cons_succ]; exact h1, fun h3 => ?_⟩
    rw [h2 (by simpa using h3)]
    have hr : rawsL (s :: l) = frameL (bodyL s) ++ rawsL l := by unfold rawsL; rw [List.map_cons, List.flatten_cons]
    rw [hr, List.length_append]
    omega
end Go.Proofs.YtcfgnbbiljohjaaGreatDoor
end
