/- NetOnce's plain law, and how its lists lie: what was put, what is gone. Conditions: they lie as 'OM' says. -/
import Derived.Test.YtdiogipdcpiffaaNetL
set_option linter.unusedVariables false
set_option maxHeartbeats 400000
set_option maxRecDepth 10000
namespace Go.Proofs.Ytdiogipdcpiffaa
open Go.RowKit

structure OInv (N : NA) (put : List Pc) (gone : List Nat) : Prop where
  came : N.came = put.length
  has : ∀ p ∈ N.l, put[p.num]? = some p
  nd : (N.l.map (·.num)).Nodup
  gn : ∀ g ∈ gone, g < put.length ∧ ∀ p ∈ N.l, p.num ≠ g
  cnt : N.l.length + gone.length = put.length
theorem OInv.start (e m : Nat) : OInv ⟨e, m, 0, [], []⟩ [] [] := ⟨rfl, by simp, by simp, by simp, rfl⟩
theorem OInv.lt {N : NA} {put : List Pc} {gone : List Nat} (h : OInv N put gone) {p : Pc} (hp : p ∈ N.l) : p.num < put.length := (List.getElem?_eq_some_iff.1 (h.has p hp)).1
theorem OInv.put {N : NA} {put : List Pc} {gone : List Nat} (h : OInv N put gone) (f t : Int) (l : List UInt8) : OInv (N.put f t l) (put ++ [⟨N.came, f, t, l⟩]) gone := by
  refine ⟨by show N.came + 1 = _; rw [h.came]; simp, ?_, ?_, ?_, ?_⟩
  · intro p hp
    rcases List.mem_append.1 hp with hp | hp
    · rw [List.getElem?_append_left (h.lt hp)]; exact h.has p hp
    · obtain rfl := List.mem_singleton.1 hp
      show (put ++ [_])[N.came]? = _
      rw [h.came, List.getElem?_append_right (Nat.le_refl _)]; simp
  · show ((N.l ++ [_]).map _).Nodup
    rw [List.map_append, List.nodup_append]
    refine ⟨h.nd, by simp, ?_⟩
    intro a ha c hc
    obtain ⟨p, hp, rfl⟩ := List.mem_map.1 ha
    simp only [List.map_cons, List.map_nil, List.mem_singleton] at hc
    have := h.lt hp
    rw [hc, h.came]; omega
  · intro g hg
    obtain ⟨h1, h2⟩ := h.gn g hg
    refine ⟨by rw [List.length_append]; omega, fun p hp => ?_⟩
    rcases List.mem_append.1 hp with hp | hp
    · exact h2 p hp
    · obtain rfl := List.mem_singleton.1 hp
      show N.came ≠ g
      rw [h.came]; omega
  · show (N.l ++ [_]).length + _ = _
    have := h.cnt
    simp only [List.length_append, List.length_cons, List.length_nil]; omega
theorem OInv.without {N : NA} {put : List Pc} {gone : List Nat} (h : OInv N put gone) (i : Nat) (x : Pc) (hx : N.l[i]? = some x) : OInv (N.without i) put (gone ++ [x.num]) := by
  obtain ⟨hi, hxi⟩ := List.getElem?_eq_some_iff.1 hx
  have hsp : N.l = N.l.take i ++ x :: N.l.drop (i + 1) := by
    have h1 := (List.take_append_drop i N.l).symm
    rw [List.drop_eq_getElem_cons hi, hxi] at h1
    exact h1
  have hmem : ∀ p ∈ (N.without i).l, p ∈ N.l := fun p hp => by
    rcases List.mem_append.1 hp with hp | hp
    · exact List.mem_of_mem_take hp
    · exact List.mem_of_mem_drop hp
  have hnd := h.nd
  rw [hsp, List.map_append, List.map_cons, List.nodup_append, List.nodup_cons] at hnd
  obtain ⟨n1, ⟨n2, n3⟩, n4⟩ := hnd
  have hne : ∀ p ∈ (N.without i).l, p.num ≠ x.num := fun p hp e => by
    rcases List.mem_append.1 hp with hp | hp
    · exact n4 p.num (List.mem_map.2 ⟨p, hp, rfl⟩) x.num (by simp) e
    · exact n2 (List.mem_map.2 ⟨p, hp, e⟩)
  have hxm : x ∈ N.l := List.mem_of_getElem? hx
  refine ⟨h.came, fun p hp => h.has p (hmem p hp), ?_, ?_, ?_⟩
  · show ((N.l.take i ++ N.l.drop (i + 1)).map _).Nodup
    rw [List.map_append, List.nodup_append]
    exact ⟨n1, n3, fun a ha c hc => n4 a ha c (List.mem_cons_of_mem _ hc)⟩
  · intro g hg
    rcases List.mem_append.1 hg with hg | hg
    · exact ⟨(h.gn g hg).1, fun p hp => (h.gn g hg).2 p (hmem p hp)⟩
    · obtain rfl := List.mem_singleton.1 hg
      exact ⟨h.lt hxm, hne⟩
  · show (N.l.take i ++ N.l.drop (i + 1)).length + _ = _
    have := h.cnt
    simp only [List.length_append, List.length_take, List.length_drop, List.length_cons, List.length_nil]; omega
theorem OInv.down {N : NA} {put : List Pc} {gone : List Nat} (h : OInv N put gone) (f t : Int) (is : Bool) : OInv (N.downR f t is).1 put gone := by
  unfold NA.downR
  split
  · exact ⟨h.came, h.has, h.nd, h.gn, h.cnt⟩
  · exact h

theorem NetX.moreK {w w' : World} {F M M2 S : Nat → Prop} {b : Nat} {N : NA} (h : NetX w F M b N) (hk : Keeps S w w') (hS : ∀ k, F k → ¬ S k) (hM : ∀ k, k < w.heap.size → S k → M k) (h1 : ∀ k, M k → M2 k) (h2 : ∀ k, M2 k → M k ∨ (w.heap.size ≤ k ∧ k < w'.heap.size)) : NetX w' F M2 b N := by
  obtain ⟨A, m, v, cs, h⟩ := h
  exact ⟨A, m, v, cs, { h with box := h.box.keeps hk (hS _ h.fb), win := h.win.keeps hk (fun g hg => hS _ (h.fv g hg).1), row := h.row.mono (fun c p hc => hc.keeps hk fun k hk hs => (h.fa k hk).2 (hM k (h.fa k hk).1 hs)), dn := h.dn.keeps hk (hS _ h.fm), fa := fun k hk' => ⟨Nat.lt_of_lt_of_le (h.fa k hk').1 hk.size, fun hm => (h2 k hm).elim (h.fa k hk').2 (fun hn => by have := (h.fa k hk').1; omega)⟩, fM := fun k hk => h1 k (h.fM k hk), lt := fun k hk' => (h2 k hk').elim (fun hm => Nat.lt_of_lt_of_le (h.lt k hm) hk.size) (fun hn => hn.2) }⟩

theorem infoLong : (Try.prog.info? 2).map (fun i => (i.zero, i.size, i.bytes)) = some (some (.int .i64 0), 1, 8) := by kernel_rfl
/-- append(l, x) of int64s -/
theorem append_long (w : World) (base : Nat) (v : Value) (l : List Nat) (ty : TypeId) (hw : Win w base 1 v l.length (l.map intV)) (x q : Nat) (hq : Box w q 2 [intV x]) (hl : l.length ≤ 1000000) (hb : base ≤ w.heap.size) :
    ∃ v' w', (Builtin.append_ #[58, 58] ty #[v, .slice (some ⟨q, 0, none⟩) 1 1]).run Try.prog w = .ok v' w' ∧ Win w' base 1 v' (l ++ [x]).length ((l ++ [x]).map intV) ∧ Keeps (Own v) w w' ∧ (v'.ownBlock = v.ownBlock ∨ v'.ownBlock = some w.heap.size) := by
  obtain ⟨i0, hi, hz0, hz1, hz2⟩ := info_parts infoLong
  obtain ⟨v', w', h1, h2, h3, h4⟩ := run_append_win (P := Try.prog) w base 58 58 ty 2 i0 _ 1 8 Try.underlying58 hi hz0 hz1 hz2 rfl v l.length (l.map intV) hw
    (.slice (some ⟨q, 0, none⟩) 1 1) 1 [intV x] ((Box.src hq 1 1).toSrc Try.underlying58 rfl (by intro u hu; simp only [List.mem_singleton] at hu; subst hu; rfl)) (by simp [maxLen]; omega) (by omega) hb
  exact ⟨v', w', h1, by rw [List.length_append, List.map_append]; exact h2, h3, h4⟩

structure OM (w0 wr : World) (A : Nat → Prop) (b : Nat) (pv gv : Value) (N : NA) (put : List Pc) (gone : List Nat) (F M : Nat → Prop) (cs : List Value) : Prop where
  rig : Rig w0 wr F M b N
  pw : Win wr w0.heap.size 4 pv put.length cs
  pr : RowOf 4 (ParEn wr A) cs put
  gw : Win wr w0.heap.size 1 gv gone.length (gone.map intV)
  po : ∀ g, pv.ownBlock = some g → M g ∧ ¬ F g
  go : ∀ g, gv.ownBlock = some g → M g ∧ ¬ F g
  pg : ∀ g, pv.ownBlock = some g → gv.ownBlock ≠ some g
  ha : ∀ k, A k → k < w0.heap.size
section
variable {w0 w w' : World} {A F M F' M' : Nat → Prop} {b : Nat} {pv gv : Value} {N N' : NA} {put : List Pc} {gone : List Nat} {cs : List Value}
theorem OM.ext (h : OM w0 w A b pv gv N put gone F M cs) (hk : Ext w w') : OM w0 w' A b pv gv N put gone F M cs :=
  { h with rig := h.rig.ext hk, pw := h.pw.ext hk, pr := h.pr.mono (fun c p hc => hc.keeps hk fun _ _ => noB _), gw := h.gw.ext hk }
theorem OM.step (h : OM w0 w A b pv gv N put gone F M cs) (hn : NetX w' F' M' b N') (hs : Step w w' F M F' M') : OM w0 w' A b pv gv N' put gone F' M' cs := by
  have hA : ∀ k, A k → ¬ F k := fun k hk hf => by have := h.rig.base k (h.rig.net.FM k hf); have := h.ha k hk; omega
  have hF' : ∀ k, M k → ¬ F k → ¬ F' k := fun k hm hf hf' => (hs.inF k hf').elim hf (fun hn => by have := h.rig.net.below k hm; omega)
  exact { h with rig := h.rig.step hn hs, pw := h.pw.keeps hs.keeps (fun g hg => (h.po g hg).2), pr := h.pr.mono (fun c p hc => hc.keeps hs.keeps hA), gw := h.gw.keeps hs.keeps (fun g hg => (h.go g hg).2), po := fun g hg => ⟨hs.sub g (h.po g hg).1, hF' g (h.po g hg).1 (h.po g hg).2⟩, go := fun g hg => ⟨hs.sub g (h.go g hg).1, hF' g (h.go g hg).1 (h.go g hg).2⟩ }
/-- one more in what was put -/
theorem OM.more (h : OM w0 w A b pv gv N put gone F M cs) {pv' : Value} {x : Pc} {c : List Value} (hk : Keeps (Own pv) w w') (hw : Win w' w0.heap.size 4 pv' (put ++ [x]).length (cs ++ c)) (hr : RowOf 4 (ParEn w' A) (cs ++ c) (put ++ [x])) (ho : pv'.ownBlock = pv.ownBlock ∨ pv'.ownBlock = some w.heap.size) : ∃ M', OM w0 w' A b pv' gv N (put ++ [x]) gone F M' (cs ++ c) := by
  have hM2 : ∀ k, (M k ∨ pv'.ownBlock = some k) → M k ∨ (w.heap.size ≤ k ∧ k < w'.heap.size) := fun k hk' => by
    rcases hk' with h1 | h1
    · exact .inl h1
    · rcases ho with h2 | h2
      · exact .inl (h.po k (h2.symm.trans h1)).1
      · have := (hw.block k h1).2
        rw [h2] at h1; injection h1 with h1; exact .inr (by omega)
  have hfr : ∀ k, pv'.ownBlock = some k → pv.ownBlock = some k ∨ k = w.heap.size := fun k hk' => by
    rcases ho with h2 | h2
    · exact .inl (h2.symm.trans hk')
    · rw [h2] at hk'; injection hk' with hk'; exact .inr hk'.symm
  have hgk : ∀ g, gv.ownBlock = some g → ¬ Own pv g := fun g hg h2 => h.pg g h2 hg
  refine ⟨fun k => M k ∨ pv'.ownBlock = some k, ⟨⟨h.rig.net.moreK hk (fun k hf h2 => (h.po k h2).2 hf) (fun k _ h2 => (h.po k h2).1) (fun k hm => .inl hm) hM2, ?_, h.rig.E.then hk fun i hi' h2 => ?_⟩, hw, hr, h.gw.keeps hk hgk, ?_, ?_, ?_, h.ha⟩⟩
  · intro k hk'
    rcases hM2 k hk' with h1 | h1
    · exact h.rig.base k h1
    · have := h.rig.E.size; omega
  · have := h.rig.base i (h.po i h2).1; omega
  · intro g hg
    refine ⟨.inr hg, fun hf => ?_⟩
    rcases hfr g hg with h1 | h1
    · exact (h.po g h1).2 hf
    · have := h.rig.net.below g (h.rig.net.FM g hf); omega
  · intro g hg
    exact ⟨.inl (h.go g hg).1, (h.go g hg).2⟩
  · intro g hg h2
    rcases hfr g hg with h1 | h1
    · exact h.pg g h1 h2
    · have := (h.gw.block g h2).2; omega
/-- one more gone -/
theorem OM.away (h : OM w0 w A b pv gv N put gone F M cs) {gv' : Value} {x : Nat} (hk : Keeps (Own gv) w w') (hw : Win w' w0.heap.size 1 gv' (gone ++ [x]).length ((gone ++ [x]).map intV)) (ho : gv'.ownBlock = gv.ownBlock ∨ gv'.ownBlock = some w.heap.size) : ∃ M', OM w0 w' A b pv gv' N put (gone ++ [x]) F M' cs := by
  have hM2 : ∀ k, (M k ∨ gv'.ownBlock = some k) → M k ∨ (w.heap.size ≤ k ∧ k < w'.heap.size) := fun k hk' => by
    rcases hk' with h1 | h1
    · exact .inl h1
    · rcases ho with h2 | h2
      · exact .inl (h.go k (h2.symm.trans h1)).1
      · have := (hw.block k h1).2
        rw [h2] at h1; injection h1 with h1; exact .inr (by omega)
  have hfr : ∀ k, gv'.ownBlock = some k → gv.ownBlock = some k ∨ k = w.heap.size := fun k hk' => by
    rcases ho with h2 | h2
    · exact .inl (h2.symm.trans hk')
    · rw [h2] at hk'; injection hk' with hk'; exact .inr hk'.symm
  have hA : ∀ k, A k → ¬ Own gv k := fun k ha h2 => by have := h.rig.base k (h.go k h2).1; have := h.ha k ha; omega
  refine ⟨fun k => M k ∨ gv'.ownBlock = some k, ⟨⟨h.rig.net.moreK hk (fun k hf h2 => (h.go k h2).2 hf) (fun k _ h2 => (h.go k h2).1) (fun k hm => .inl hm) hM2, ?_, h.rig.E.then hk fun i hi' h2 => ?_⟩, h.pw.keeps hk (fun g hg h2 => h.pg g hg h2), h.pr.mono (fun c p hc => hc.keeps hk hA), hw, ?_, ?_, ?_, h.ha⟩⟩
  · intro k hk'
    rcases hM2 k hk' with h1 | h1
    · exact h.rig.base k h1
    · have := h.rig.E.size; omega
  · have := h.rig.base i (h.go i h2).1; omega
  · intro g hg
    exact ⟨.inl (h.po g hg).1, (h.po g hg).2⟩
  · intro g hg
    refine ⟨.inr hg, fun hf => ?_⟩
    rcases hfr g hg with h1 | h1
    · exact (h.go g h1).2 hf
    · have := h.rig.net.below g (h.rig.net.FM g hf); omega
  · intro g hg h2
    rcases hfr g h2 with h1 | h1
    · exact h.pg g hg h1
    · have := (h.pw.block g hg).2; omega
end
end Go.Proofs.Ytdiogipdcpiffaa
