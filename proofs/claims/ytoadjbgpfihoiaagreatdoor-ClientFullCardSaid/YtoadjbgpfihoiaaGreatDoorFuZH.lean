/- Texts CP, CQ, CR, one behind the other. Conditions: as each says. -/
import Derived.Test.YtoadjbgpfihoiaaGreatDoorFuZF
set_option linter.unusedVariables false
set_option linter.unusedSimpArgs false
set_option maxHeartbeats 8000000
set_option maxRecDepth 100000
namespace Go.Proofs.YtoadjbgpfihoiaaGreatDoor
open Go.RowKit
section
attribute [local go_sem] Oper.semAt_some
def sdE : Enc Sd where
 cells := Sd.cells
 sz := 11
 len _ := rfl
 one x u hu := by
  simp only [Sd.cells, List.mem_cons, List.not_mem_nil, or_false] at hu; rcases hu with rfl | rfl | rfl | rfl | rfl | rfl | rfl | rfl | rfl | rfl | rfl <;> rfl
theorem infoSd : (Tryz.prog.info? 37).map (fun i => (i.zero, i.size, i.bytes)) = some (some (.agg #[.int .i64 0, .int .i64 0, .int .i64 0, .int .i64 0, .bool false, .string ⟨#[]⟩, .string ⟨#[]⟩, .int .i64 0, .int .i64 0, .int .i64 0, .string ⟨#[]⟩]), 11, 112) := by kernel_rfl
theorem add_sd {F : Nat → Prop} {w0 w : World} {L : List Res} {v : Value} {l : List Sd} (ty : TypeId) (h : Mem F w0 w (rowR sdE v l :: L)) (b c : Nat) (x : Sd) (hb : ∀ o, w.cell? ⟨b, o, none⟩ = (sdE.cells x)[o]?) (hl : l.length < 1000000) :
 ∃ v' w', (Builtin.append_ #[46, 46] ty #[v, .slice (some ⟨b, 0, none⟩) 1 c]).run Tryz.prog w = .ok v' w' ∧ Mem F w0 w' (rowR sdE v' (l ++ [x]) :: L) := by
 obtain ⟨i0, hi, hz0, hz1, hz2⟩ := info_parts infoSd; exact Mem.rowAdd 46 46 ty 37 i0 _ 112 Tryz.underlying46 Tryz.underlying46 hi hz0 hz1 hz2 rfl h b c x hb (by simp [maxLen]; omega) (by omega)
theorem sdl_row {A : Nat → Prop} {w : World} {v : Value} {l : List Sd} (h : (rowR sdE v l).p A w) (hl : ∀ x ∈ l, OkS x ∧ I64 x.kind) : Sdl w A v l := by
 obtain ⟨a, c, rfl⟩ := row_len h; by_cases h0 : l = []
 · subst h0
   obtain ⟨h0, -, ⟨h1, -⟩ | ⟨g, o, cap, h1, h2, h3, -⟩⟩ := h
   · exact .inl ⟨_, h1, rfl⟩
   · exact .inr ⟨g, o, cap, h1, h3, (h0 g).2 (by rw [h1]; rfl), fun i hi => absurd hi (Nat.not_lt_zero _)⟩
 · obtain ⟨g, o, cap, hv, hc, hA, hcells⟩ := row_cells h (List.length_pos_iff.2 h0)
   cases hv
   exact .inr ⟨g, o, c, rfl, hc, hA, fun i hi => ⟨l[i].cells, ⟨rfl, (hl _ (List.getElem_mem hi)).1, (hl _ (List.getElem_mem hi)).2⟩, rfl, fun j hj => hcells i hi j hj⟩⟩
theorem say_ok {e : En} (h : e.text.length ≤ 500000) : OkS (sayS e) ∧ I64 (sayS e).kind := ⟨⟨by show I64 0; unfold I64; decide, Nat.le_trans h (by decide), by show ([] : List UInt8).length ≤ _; simp, by show ([] : List UInt8).length ≤ _; simp⟩, by show I64 4; unfold I64; decide⟩
theorem cagain_any {A : Nat → Prop} (w : World) (cb : Nat) (c : Cl) (h : (clR cb c).p A w) (hX : TabX A w) (hw : c.waits.length ≤ 1000) (hok : ∀ e ∈ c.waits, e.text.length ≤ 500000) :
 Calls Tryz.prog 50 #[.pointer (some ⟨cb, 0, none⟩)] w fun e w' => ∃ v, e = .returned (.tuple #[v, .int .i64 (if c.on then 0 else 380)]) ∧ Upd A w w' (listR [bytR v (if c.on then rawsX (c.waits.map sayS) else []), clR cb c]) := by
 obtain ⟨lv, kv, wv, bv, hm⟩ := (Mem.start h).clOpen; obtain ⟨aw, cw, rfl⟩ := (hm.pick (r := rowR tenE wv c.waits) pk).fact fun A h => row_len h
 have HM := Hd hm; have HX := Hd hX; have HOK := Hd hok; clear hm h hX hok; cases hon : c.on
 · simp only [Bool.false_eq_true, if_false]
   go_enter Tryz.func50, Tryz.ntmps50
   go_wp2_with fail; obtain ⟨_, hb⟩ := HM.out.get (r := cellsR cb 112 (clC lv kv (.slice aw c.waits.length cw) bv c)) pk; refine (cnone_at w cb true (hb.2.reads.1 44)).mono ?_; rintro e w2 ⟨rfl, hw⟩; rw [hw]; clear hw w2 hb; have fM := HM.out.fa; go_wp2_with fail; all_goals clear fM
   go_ret2
   exact ⟨_, rfl, (Mem.list' (L1 := [bytR (.slice none 0 0) [], clR cb c]) (L := []) (Mem.sub (Mem.clClose (L := [bytR (.slice none 0 0) []]) (Mem.sub HM.out.bytNil (by repeat first | exact Sub.nil | refine Sub.cons (by with_reducible repeat first | exact ph | apply pt) ?_))) sbI)).upd⟩
 simp only [if_true]; obtain ⟨n, hn⟩ : ∃ n, c.waits.length = n := ⟨_, rfl⟩; have HN := Hd hn; rw [hn] at hw HM; clear hn; have hwl : (n : Int) ≤ 1000 := by omega
 go_enter Tryz.func50, Tryz.ntmps50
 go_wp2_with fail; obtain ⟨_, hb⟩ := HM.out.get (r := cellsR cb 112 (clC lv kv (.slice aw n cw) bv c)) pk; refine (cnone_at w cb true (hb.2.reads.1 44)).mono ?_; rintro e w2 ⟨rfl, hw⟩; rw [hw]; clear hw w2 hb; have fM := HM.out.fa; go_wp2_with fail; all_goals clear fM
 replace HM := Hd (HM.out.nilRow (E := sdE)); go_loopw [4, 21] (fun q i wr => ∃ (k : Nat) (a : Option Addr) (d : Nat) (l : List Sd), k ≤ n ∧ q = .slice a l.length d ∧ i = .int .i64 k ∧ Hid (l = (c.waits.take k).map sayS) ∧ Hid (Mem A w wr [rowR sdE (.slice a l.length d) l, rowR tenE (.slice aw n cw) c.waits, cellsR cb 112 (clC lv kv (.slice aw n cw) bv c), linR lv kv c.m.lines c.k.lines, readR bv c.bytes])) (fun _ i _ => n - (intOf i).toNat)
 case atStart =>
  have hm0 : Mem A w w [rowR sdE (.slice none 0 0) [], rowR tenE (.slice aw n cw) c.waits, cellsR cb 112 (clC lv kv (.slice aw n cw) bv c), linR lv kv c.m.lines c.k.lines, readR bv c.bytes] := Mem.sub HM.out sbI; exact ⟨0, none, 0, [], Nat.zero_le _, rfl, rfl, Hd (by simp), Hd hm0⟩
 case round =>
  clear HM; obtain ⟨k, a, d, l, hk, rfl, rfl, HL, HM⟩ := hrel; by_cases hlt : k < n
  · obtain ⟨_, hr⟩ := HM.out.get (r := rowR tenE (.slice aw n cw) c.waits) pk
    have hkl : k < c.waits.length := by have := HN.out; omega
    obtain ⟨g, o, cap, hva, -, -, hcells⟩ := row_cells hr (by omega); rw [HN.out] at hva; cases hva
    have hce := hcells k hkl; have HSN := Hd (show (c.waits.take (k + 1)).map sayS = l ++ [sayS c.waits[k]] by rw [HL.out, List.take_succ_eq_append_getElem hkl, List.map_append]; rfl); obtain ⟨y, hy⟩ : ∃ y, c.waits[k] = y := ⟨_, rfl⟩; rw [hy] at hce HSN; have hll : l.length ≤ 1000 := by rw [HL.out, List.length_map, List.length_take]; omega
    have HLL := Hd hll; have g1 : (k : Int) < (n : Int) := by omega
    have g2 : ¬ (k : Int) < 0 := by omega
    have c0 := hce 0 (by decide); have c1 := hce 1 (by decide); have c2 := hce 2 (by decide); have c3 := hce 3 (by decide); simp only [tenE, En.cells, Nat.add_zero, List.getElem?_cons_zero, List.getElem?_cons_succ] at c0 c1 c2 c3; clear hce hcells hy hr hkl hll; have fM := HM.out.fa; go_wp2_with fail; all_goals clear fM
    clear c0 c1 c2 c3; refine nxt HM fun w3 M => ?_
    replace HM := M; clear M; refine (csaying_any w3 y).mono ?_; rintro r w4 ⟨rfl, hE⟩; replace HM := Hd (HM.out.ext hE); clear hE; unfold Sd.v Sd.cells; have fM := HM.out.fa
    go_wp2_with (first
     | ((with_reducible refine at_list ?_); first
       | ((with_reducible refine at_load 37 _ rfl ?_); refine ldW 37 _ rfl rfl rfl HM.out Tryz.underlying37 rfl infoSdc ?_)
       | ((first
         | ((with_reducible refine at_store 37 _ _ rfl ?_); refine stW 37 _ _ rfl rfl rfl rfl HM.out infoSdc ?_; intro w9 M)
         | ((with_reducible refine at_box 37 _ rfl ?_); refine boW 37 _ rfl rfl rfl HM.out ?_; intro w9 n9 M)
         | ((with_reducible refine at_alloc 37 rfl ?_); refine alW 37 rfl rfl (zeroSdc _) HM.out ?_; intro w9 n9 M)); replace HM := Hd M; clear M fM; have fM := HM.out.fa))
     | (at_builtin; refine standing ?_))
    all_goals clear fM
    refine nxt HM fun w5 M => ?_
    replace HM := M; clear M; obtain ⟨_, hb⟩ := HM.out.get (r := cellsR w4.heap.size 37 _) (by with_reducible repeat first | exact ph | apply pt); have hb2 : Box w5 w4.heap.size 37 (sayS y).cells := hb.2; obtain ⟨v6, w6, hr, hm6⟩ := add_sd 46 (HM.out.pick (r := rowR sdE (.slice a l.length d) l) pk) _ 1 (sayS y) hb2.reads.1 (by have := HLL.out; omega); obtain ⟨l2, hl2⟩ : ∃ q, l ++ [sayS y] = q := ⟨_, rfl⟩; rw [hl2] at hm6 HSN; have HL2 := Hd (show l2.length = l.length + 1 by rw [← hl2]; simp); obtain ⟨a6, c6, rfl⟩ := hm6.fact (fun A h => row_len h); replace HM := Hd hm6; refine ⟨?_⟩; refine wpList_append_ran rfl _ _ hr rfl rfl rfl ?_; clear hr hm6 hb hb2 hl2; have fM := HM.out.fa; go_wp2_with fail; all_goals clear fM
    go_roundw
    case rel => exact ⟨k + 1, a6, c6, l2, by omega, rfl, by go_num, Hd HSN.out.symm, Hd (Mem.sub HM.out sbI)⟩
    case measure => simp [intOf]; omega
  · obtain rfl : k = n := by omega
    have HLE := Hd (show l = c.waits.map sayS by rw [HL.out, List.take_of_length_le (by have := HN.out; omega)]); have fM := HM.out.fa; go_wp2_with fail; all_goals clear fM
    obtain ⟨B1, hB1⟩ := HM.out.get (r := rowR sdE (.slice a l.length d) l) pk
    refine (craw_any wr _ l (sdl_row hB1 (by
     intro x hx; rw [HLE.out] at hx; obtain ⟨e, he, rfl⟩ := List.mem_map.1 hx; exact say_ok (HOK.out e he))) (by rw [HLE.out, List.length_map, HN.out]; omega) (tabs_mem HX.out HM.out)).mono ?_
    rintro r w2 ⟨v, rfl, hU⟩; replace HM := Hd (HM.out.newU hU); clear hU hB1; have fM := HM.out.fa; go_wp2_with fail; all_goals clear fM
    go_ret2
    rw [← HLE.out]; exact ⟨v, rfl, (Mem.list' (L1 := [bytR v (rawsX l), clR cb c]) (L := []) (Mem.sub (Mem.clClose (c := c) (L := [bytR v (rawsX l)]) (Mem.sub HM.out (by repeat first | exact Sub.nil | refine Sub.cons (by with_reducible repeat first | exact ph | apply pt) ?_))) sbI)).upd⟩
end
section
attribute [local go_sem] Oper.semAt_some
def tellS (c : Cl) (k : Int) (is : Bool) : Sd := { Sd.of k with index := if k = 5 then c.m.next else 0, is := if k = 7 then is else false }
def Cl.tell (c : Cl) (k : Int) (is : Bool) : List UInt8 × Int :=
 if k ≠ 2 ∧ k ≠ 3 ∧ k ≠ 5 ∧ k ≠ 6 ∧ k ≠ 7 then ([], 2) else if k = 5 ∧ 2147483647 < c.m.next then ([], 3)
 else if c.on = false ∨ (k = 5 ∧ c.m.next < 0) then ([], 380) else (rawsX [tellS c k is], 0)
theorem ctell_any {A : Nat → Prop} (w : World) (cb : Nat) (c : Cl) (k : Int) (is : Bool) (hk : I64 k) (h : (clR cb c).p A w) (hX : TabX A w) :
 Calls Tryz.prog 51 #[.pointer (some ⟨cb, 0, none⟩), .int .i64 k, .bool is] w fun e w' => ∃ v, e = .returned (.tuple #[v, .int .i64 (c.tell k is).2]) ∧ Upd A w w' (listR [bytR v (c.tell k is).1, clR cb c]) := by
 by_cases hb : k ≠ 2 ∧ k ≠ 3 ∧ k ≠ 5 ∧ k ≠ 6 ∧ k ≠ 7
 · have HS := Hd (show c.tell k is = ([], 2) by unfold Cl.tell; rw [if_pos hb])
   have a2 : (k != 2) = true := by simpa using hb.1
   have a3 : (k != 3) = true := by simpa using hb.2.1
   have a5 : (k != 5) = true := by simpa using hb.2.2.1
   have a6 : (k != 6) = true := by simpa using hb.2.2.2.1
   have a7 : (k != 7) = true := by simpa using hb.2.2.2.2
   clear hb; obtain ⟨lv, kv, wv, bv, hm⟩ := (Mem.start h).clOpen; have HM := Hd hm; have HX := Hd hX; clear hm h hX; go_enter Tryz.func51, Tryz.ntmps51
   have fM := HM.out.fa; go_wp2_with ((first | ((with_reducible refine at_store 37 _ _ rfl ?_); refine stW 37 _ _ rfl rfl rfl rfl HM.out infoSdc ?_; intro w9 M) | ((with_reducible refine at_alloc 37 rfl ?_); refine alW 37 rfl rfl (zeroSdc _) HM.out ?_; intro w9 n9 M)); replace HM := Hd M; clear M fM; have fM := HM.out.fa); all_goals clear fM
   rename Nat => kx
   refine nxt HM fun w1 M => ?_
   replace HM := M; clear M; obtain ⟨_, hb⟩ := HM.out.get (r := cellsR cb 112 (clC lv kv wv bv c)) pk; refine (cnone_at w1 cb true (hb.2.reads.1 44)).mono ?_; rintro e w2 ⟨rfl, hw⟩; rw [hw]; clear hw w2 hb; have fM := HM.out.fa; go_wp2_with fail; all_goals clear fM
   refine nxt HM fun w3 M => ?_
   replace HM := M; clear M; go_ret2
   rw [HS.out]; exact ⟨.slice none 0 0, rfl, (Mem.list' (L1 := [bytR (.slice none 0 0) [], clR cb c]) (L := []) (Mem.sub (Mem.clClose (L := [bytR (.slice none 0 0) []]) (Mem.sub HM.out.bytNil (by repeat first | exact Sub.nil | refine Sub.cons (by with_reducible repeat first | exact ph | apply pt) ?_))) sbI)).upd⟩
 by_cases h5 : k = 5
 · subst h5
   by_cases h1 : 2147483647 < c.m.next
   · have HS := Hd (show c.tell 5 is = ([], 3) by unfold Cl.tell; rw [if_neg hb, if_pos ⟨rfl, h1⟩])
     clear hb; obtain ⟨lv, kv, wv, bv, hm⟩ := (Mem.start h).clOpen; have HM := Hd hm; have HX := Hd hX; clear hm h hX; go_enter Tryz.func51, Tryz.ntmps51
     have fM := HM.out.fa; go_wp2_with ((first | ((with_reducible refine at_store 37 _ _ rfl ?_); refine stW 37 _ _ rfl rfl rfl rfl HM.out infoSdc ?_; intro w9 M) | ((with_reducible refine at_alloc 37 rfl ?_); refine alW 37 rfl rfl (zeroSdc _) HM.out ?_; intro w9 n9 M)); replace HM := Hd M; clear M fM; have fM := HM.out.fa); all_goals clear fM
     rename Nat => kx
     refine nxt HM fun w1 M => ?_
     replace HM := M; clear M; obtain ⟨_, hb⟩ := HM.out.get (r := cellsR cb 112 (clC lv kv wv bv c)) pk; refine (cnone_at w1 cb true (hb.2.reads.1 44)).mono ?_; rintro e w2 ⟨rfl, hw⟩; rw [hw]; clear hw w2 hb; have fM := HM.out.fa; go_wp2_with fail; all_goals clear fM
     refine nxt HM fun w3 M => ?_
     replace HM := M; clear M; go_ret2
     rw [HS.out]; exact ⟨.slice none 0 0, rfl, (Mem.list' (L1 := [bytR (.slice none 0 0) [], clR cb c]) (L := []) (Mem.sub (Mem.clClose (L := [bytR (.slice none 0 0) []]) (Mem.sub HM.out.bytNil (by repeat first | exact Sub.nil | refine Sub.cons (by with_reducible repeat first | exact ph | apply pt) ?_))) sbI)).upd⟩
   cases hon : c.on
   · have HS := Hd (show c.tell 5 is = ([], 380) by unfold Cl.tell; rw [if_neg hb, if_neg (fun h => h1 h.2), if_pos (.inl hon)])
     clear hb; obtain ⟨lv, kv, wv, bv, hm⟩ := (Mem.start h).clOpen; have HM := Hd hm; have HX := Hd hX; clear hm h hX; go_enter Tryz.func51, Tryz.ntmps51
     have fM := HM.out.fa; go_wp2_with ((first | ((with_reducible refine at_store 37 _ _ rfl ?_); refine stW 37 _ _ rfl rfl rfl rfl HM.out infoSdc ?_; intro w9 M) | ((with_reducible refine at_alloc 37 rfl ?_); refine alW 37 rfl rfl (zeroSdc _) HM.out ?_; intro w9 n9 M)); replace HM := Hd M; clear M fM; have fM := HM.out.fa); all_goals clear fM
     rename Nat => kx
     refine nxt HM fun w1 M => ?_
     replace HM := M; clear M; obtain ⟨_, hb⟩ := HM.out.get (r := cellsR cb 112 (clC lv kv wv bv c)) pk; refine (cnone_at w1 cb true (hb.2.reads.1 44)).mono ?_; rintro e w2 ⟨rfl, hw⟩; rw [hw]; clear hw w2 hb; have fM := HM.out.fa; go_wp2_with fail; all_goals clear fM
     refine nxt HM fun w3 M => ?_
     replace HM := M; clear M; go_ret2
     rw [HS.out]; exact ⟨.slice none 0 0, rfl, (Mem.list' (L1 := [bytR (.slice none 0 0) [], clR cb c]) (L := []) (Mem.sub (Mem.clClose (L := [bytR (.slice none 0 0) []]) (Mem.sub HM.out.bytNil (by repeat first | exact Sub.nil | refine Sub.cons (by with_reducible repeat first | exact ph | apply pt) ?_))) sbI)).upd⟩
   by_cases h2 : c.m.next < 0
   · have HS := Hd (show c.tell 5 is = ([], 380) by unfold Cl.tell; rw [if_neg hb, if_neg (fun h => h1 h.2), if_pos (.inr ⟨rfl, h2⟩)])
     clear hb; obtain ⟨lv, kv, wv, bv, hm⟩ := (Mem.start h).clOpen; have HM := Hd hm; have HX := Hd hX; clear hm h hX; go_enter Tryz.func51, Tryz.ntmps51
     have fM := HM.out.fa; go_wp2_with ((first | ((with_reducible refine at_store 37 _ _ rfl ?_); refine stW 37 _ _ rfl rfl rfl rfl HM.out infoSdc ?_; intro w9 M) | ((with_reducible refine at_alloc 37 rfl ?_); refine alW 37 rfl rfl (zeroSdc _) HM.out ?_; intro w9 n9 M)); replace HM := Hd M; clear M fM; have fM := HM.out.fa); all_goals clear fM
     rename Nat => kx
     refine nxt HM fun w1 M => ?_
     replace HM := M; clear M; obtain ⟨_, hb⟩ := HM.out.get (r := cellsR cb 112 (clC lv kv wv bv c)) pk; refine (cnone_at w1 cb true (hb.2.reads.1 44)).mono ?_; rintro e w2 ⟨rfl, hw⟩; rw [hw]; clear hw w2 hb; have fM := HM.out.fa; go_wp2_with fail; all_goals clear fM
     refine nxt HM fun w3 M => ?_
     replace HM := M; clear M; go_ret2
     rw [HS.out]; exact ⟨.slice none 0 0, rfl, (Mem.list' (L1 := [bytR (.slice none 0 0) [], clR cb c]) (L := []) (Mem.sub (Mem.clClose (L := [bytR (.slice none 0 0) []]) (Mem.sub HM.out.bytNil (by repeat first | exact Sub.nil | refine Sub.cons (by with_reducible repeat first | exact ph | apply pt) ?_))) sbI)).upd⟩
   have HS := Hd (show c.tell 5 is = (rawsX [tellS c 5 is], 0) by unfold Cl.tell; rw [if_neg hb, if_neg (fun h => h1 h.2), if_neg (fun h => h.elim (fun h => by rw [hon] at h; cases h) (fun h => h2 h.2))]); clear hb; obtain ⟨lv, kv, wv, bv, hm⟩ := (Mem.start h).clOpen; have HM := Hd hm; have HX := Hd hX; clear hm h hX; go_enter Tryz.func51, Tryz.ntmps51
   have fM := HM.out.fa; go_wp2_with ((first | ((with_reducible refine at_store 37 _ _ rfl ?_); refine stW 37 _ _ rfl rfl rfl rfl HM.out infoSdc ?_; intro w9 M) | ((with_reducible refine at_alloc 37 rfl ?_); refine alW 37 rfl rfl (zeroSdc _) HM.out ?_; intro w9 n9 M)); replace HM := Hd M; clear M fM; have fM := HM.out.fa); all_goals clear fM
   rename Nat => kx
   refine nxt HM fun w1 M => ?_
   replace HM := M; clear M; obtain ⟨_, hb⟩ := HM.out.get (r := cellsR cb 112 (clC lv kv wv bv c)) pk; refine (cnone_at w1 cb true (hb.2.reads.1 44)).mono ?_; rintro e w2 ⟨rfl, hw⟩; rw [hw]; clear hw w2 hb; have fM := HM.out.fa; go_wp2_with fail; all_goals clear fM
   obtain ⟨kb, hkb⟩ : ∃ q, w1.heap.size = q := ⟨_, rfl⟩; refine nxt HM fun w4 M => ?_
   replace HM := M; clear M; rw [hkb] at HM ⊢; clear hkb; obtain ⟨_, hb⟩ := HM.out.get (r := cellsR kb 37 _) (by with_reducible repeat first | exact ph | apply pt); have hb2 : Box w4 kb 37 (tellS c 5 is).cells := hb.2; refine (craw_any w4 _ [tellS c 5 is] (sdl_one hb2 ⟨by show I64 0; unfold I64; decide, by show ([] : List UInt8).length ≤ _; simp, by show ([] : List UInt8).length ≤ _; simp, by show ([] : List UInt8).length ≤ _; simp⟩ (by show I64 5; unfold I64; decide)) (by simp) (tabs_mem HX.out HM.out)).mono ?_; rintro r w5 ⟨v, rfl, hU⟩; replace HM := Hd (HM.out.newU hU); clear hU hb hb2; have fM := HM.out.fa; go_wp2_with fail; all_goals clear fM
   go_ret2
   rw [HS.out]; exact ⟨v, rfl, (Mem.list' (L1 := [bytR v (rawsX [tellS c 5 is]), clR cb c]) (L := []) (Mem.sub (Mem.clClose (c := c) (L := [bytR v (rawsX [tellS c 5 is])]) (Mem.sub HM.out (by repeat first | exact Sub.nil | refine Sub.cons (by with_reducible repeat first | exact ph | apply pt) ?_))) sbI)).upd⟩
 have h4 : k = 2 ∨ k = 3 ∨ k = 6 ∨ k = 7 := by omega
 cases hon : c.on
 · have HS := Hd (show c.tell k is = ([], 380) by unfold Cl.tell; rw [if_neg hb, if_neg (fun h => h5 h.1), if_pos (.inl hon)])
   clear hb; rcases h4 with rfl | rfl | rfl | rfl
   ·
    obtain ⟨lv, kv, wv, bv, hm⟩ := (Mem.start h).clOpen; have HM := Hd hm; have HX := Hd hX; clear hm h hX; go_enter Tryz.func51, Tryz.ntmps51
    have fM := HM.out.fa; go_wp2_with ((first | ((with_reducible refine at_store 37 _ _ rfl ?_); refine stW 37 _ _ rfl rfl rfl rfl HM.out infoSdc ?_; intro w9 M) | ((with_reducible refine at_alloc 37 rfl ?_); refine alW 37 rfl rfl (zeroSdc _) HM.out ?_; intro w9 n9 M)); replace HM := Hd M; clear M fM; have fM := HM.out.fa); all_goals clear fM
    rename Nat => kx
    refine nxt HM fun w1 M => ?_
    replace HM := M; clear M; obtain ⟨_, hb⟩ := HM.out.get (r := cellsR cb 112 (clC lv kv wv bv c)) pk; refine (cnone_at w1 cb true (hb.2.reads.1 44)).mono ?_; rintro e w2 ⟨rfl, hw⟩; rw [hw]; clear hw w2 hb; have fM := HM.out.fa; go_wp2_with fail; all_goals clear fM
    refine nxt HM fun w3 M => ?_
    replace HM := M; clear M; go_ret2
    rw [HS.out]; exact ⟨.slice none 0 0, rfl, (Mem.list' (L1 := [bytR (.slice none 0 0) [], clR cb c]) (L := []) (Mem.sub (Mem.clClose (L := [bytR (.slice none 0 0) []]) (Mem.sub HM.out.bytNil (by repeat first | exact Sub.nil | refine Sub.cons (by with_reducible repeat first | exact ph | apply pt) ?_))) sbI)).upd⟩
   ·
    obtain ⟨lv, kv, wv, bv, hm⟩ := (Mem.start h).clOpen; have HM := Hd hm; have HX := Hd hX; clear hm h hX; go_enter Tryz.func51, Tryz.ntmps51
    have fM := HM.out.fa; go_wp2_with ((first | ((with_reducible refine at_store 37 _ _ rfl ?_); refine stW 37 _ _ rfl rfl rfl rfl HM.out infoSdc ?_; intro w9 M) | ((with_reducible refine at_alloc 37 rfl ?_); refine alW 37 rfl rfl (zeroSdc _) HM.out ?_; intro w9 n9 M)); replace HM := Hd M; clear M fM; have fM := HM.out.fa); all_goals clear fM
    rename Nat => kx
    refine nxt HM fun w1 M => ?_
    replace HM := M; clear M; obtain ⟨_, hb⟩ := HM.out.get (r := cellsR cb 112 (clC lv kv wv bv c)) pk; refine (cnone_at w1 cb true (hb.2.reads.1 44)).mono ?_; rintro e w2 ⟨rfl, hw⟩; rw [hw]; clear hw w2 hb; have fM := HM.out.fa; go_wp2_with fail; all_goals clear fM
    refine nxt HM fun w3 M => ?_
    replace HM := M; clear M; go_ret2
    rw [HS.out]; exact ⟨.slice none 0 0, rfl, (Mem.list' (L1 := [bytR (.slice none 0 0) [], clR cb c]) (L := []) (Mem.sub (Mem.clClose (L := [bytR (.slice none 0 0) []]) (Mem.sub HM.out.bytNil (by repeat first | exact Sub.nil | refine Sub.cons (by with_reducible repeat first | exact ph | apply pt) ?_))) sbI)).upd⟩
   ·
    obtain ⟨lv, kv, wv, bv, hm⟩ := (Mem.start h).clOpen; have HM := Hd hm; have HX := Hd hX; clear hm h hX; go_enter Tryz.func51, Tryz.ntmps51
    have fM := HM.out.fa; go_wp2_with ((first | ((with_reducible refine at_store 37 _ _ rfl ?_); refine stW 37 _ _ rfl rfl rfl rfl HM.out infoSdc ?_; intro w9 M) | ((with_reducible refine at_alloc 37 rfl ?_); refine alW 37 rfl rfl (zeroSdc _) HM.out ?_; intro w9 n9 M)); replace HM := Hd M; clear M fM; have fM := HM.out.fa); all_goals clear fM
    rename Nat => kx
    refine nxt HM fun w1 M => ?_
    replace HM := M; clear M; obtain ⟨_, hb⟩ := HM.out.get (r := cellsR cb 112 (clC lv kv wv bv c)) pk; refine (cnone_at w1 cb true (hb.2.reads.1 44)).mono ?_; rintro e w2 ⟨rfl, hw⟩; rw [hw]; clear hw w2 hb; have fM := HM.out.fa; go_wp2_with fail; all_goals clear fM
    refine nxt HM fun w3 M => ?_
    replace HM := M; clear M; go_ret2
    rw [HS.out]; exact ⟨.slice none 0 0, rfl, (Mem.list' (L1 := [bytR (.slice none 0 0) [], clR cb c]) (L := []) (Mem.sub (Mem.clClose (L := [bytR (.slice none 0 0) []]) (Mem.sub HM.out.bytNil (by repeat first | exact Sub.nil | refine Sub.cons (by with_reducible repeat first | exact ph | apply pt) ?_))) sbI)).upd⟩
   ·
    obtain ⟨lv, kv, wv, bv, hm⟩ := (Mem.start h).clOpen; have HM := Hd hm; have HX := Hd hX; clear hm h hX; go_enter Tryz.func51, Tryz.ntmps51
    have fM := HM.out.fa; go_wp2_with ((first | ((with_reducible refine at_store 37 _ _ rfl ?_); refine stW 37 _ _ rfl rfl rfl rfl HM.out infoSdc ?_; intro w9 M) | ((with_reducible refine at_alloc 37 rfl ?_); refine alW 37 rfl rfl (zeroSdc _) HM.out ?_; intro w9 n9 M)); replace HM := Hd M; clear M fM; have fM := HM.out.fa); all_goals clear fM
    rename Nat => kx
    refine nxt HM fun w1 M => ?_
    replace HM := M; clear M; obtain ⟨_, hb⟩ := HM.out.get (r := cellsR cb 112 (clC lv kv wv bv c)) pk; refine (cnone_at w1 cb true (hb.2.reads.1 44)).mono ?_; rintro e w2 ⟨rfl, hw⟩; rw [hw]; clear hw w2 hb; have fM := HM.out.fa; go_wp2_with fail; all_goals clear fM
    refine nxt HM fun w3 M => ?_
    replace HM := M; clear M; go_ret2
    rw [HS.out]; exact ⟨.slice none 0 0, rfl, (Mem.list' (L1 := [bytR (.slice none 0 0) [], clR cb c]) (L := []) (Mem.sub (Mem.clClose (L := [bytR (.slice none 0 0) []]) (Mem.sub HM.out.bytNil (by repeat first | exact Sub.nil | refine Sub.cons (by with_reducible repeat first | exact ph | apply pt) ?_))) sbI)).upd⟩
 have HS := Hd (show c.tell k is = (rawsX [tellS c k is], 0) by unfold Cl.tell; rw [if_neg hb, if_neg (fun h => h5 h.1), if_neg (fun h => h.elim (fun h => by rw [hon] at h; cases h) (fun h => h5 h.1))]); clear hb; rcases h4 with rfl | rfl | rfl | rfl
 ·
  obtain ⟨lv, kv, wv, bv, hm⟩ := (Mem.start h).clOpen; have HM := Hd hm; have HX := Hd hX; clear hm h hX; go_enter Tryz.func51, Tryz.ntmps51
  have fM := HM.out.fa; go_wp2_with ((first | ((with_reducible refine at_store 37 _ _ rfl ?_); refine stW 37 _ _ rfl rfl rfl rfl HM.out infoSdc ?_; intro w9 M) | ((with_reducible refine at_alloc 37 rfl ?_); refine alW 37 rfl rfl (zeroSdc _) HM.out ?_; intro w9 n9 M)); replace HM := Hd M; clear M fM; have fM := HM.out.fa); all_goals clear fM
  rename Nat => kx
  refine nxt HM fun w1 M => ?_
  replace HM := M; clear M; obtain ⟨_, hb⟩ := HM.out.get (r := cellsR cb 112 (clC lv kv wv bv c)) pk; refine (cnone_at w1 cb true (hb.2.reads.1 44)).mono ?_; rintro e w2 ⟨rfl, hw⟩; rw [hw]; clear hw w2 hb; have fM := HM.out.fa; go_wp2_with fail; all_goals clear fM
  obtain ⟨kb, hkb⟩ : ∃ q, w1.heap.size = q := ⟨_, rfl⟩; refine nxt HM fun w4 M => ?_
  replace HM := M; clear M; rw [hkb] at HM ⊢; clear hkb; obtain ⟨_, hb⟩ := HM.out.get (r := cellsR kb 37 _) (by with_reducible repeat first | exact ph | apply pt); have hb2 : Box w4 kb 37 (tellS c 2 is).cells := hb.2; refine (craw_any w4 _ [tellS c 2 is] (sdl_one hb2 ⟨by show I64 0; unfold I64; decide, by show ([] : List UInt8).length ≤ _; simp, by show ([] : List UInt8).length ≤ _; simp, by show ([] : List UInt8).length ≤ _; simp⟩ (by show I64 2; unfold I64; decide)) (by simp) (tabs_mem HX.out HM.out)).mono ?_; rintro r w5 ⟨v, rfl, hU⟩; replace HM := Hd (HM.out.newU hU); clear hU hb hb2; have fM := HM.out.fa; go_wp2_with fail; all_goals clear fM
  go_ret2
  rw [HS.out]; exact ⟨v, rfl, (Mem.list' (L1 := [bytR v (rawsX [tellS c 2 is]), clR cb c]) (L := []) (Mem.sub (Mem.clClose (c := c) (L := [bytR v (rawsX [tellS c 2 is])]) (Mem.sub HM.out (by repeat first | exact Sub.nil | refine Sub.cons (by with_reducible repeat first | exact ph | apply pt) ?_))) sbI)).upd⟩
 ·
  obtain ⟨lv, kv, wv, bv, hm⟩ := (Mem.start h).clOpen; have HM := Hd hm; have HX := Hd hX; clear hm h hX; go_enter Tryz.func51, Tryz.ntmps51
  have fM := HM.out.fa; go_wp2_with ((first | ((with_reducible refine at_store 37 _ _ rfl ?_); refine stW 37 _ _ rfl rfl rfl rfl HM.out infoSdc ?_; intro w9 M) | ((with_reducible refine at_alloc 37 rfl ?_); refine alW 37 rfl rfl (zeroSdc _) HM.out ?_; intro w9 n9 M)); replace HM := Hd M; clear M fM; have fM := HM.out.fa); all_goals clear fM
  rename Nat => kx
  refine nxt HM fun w1 M => ?_
  replace HM := M; clear M; obtain ⟨_, hb⟩ := HM.out.get (r := cellsR cb 112 (clC lv kv wv bv c)) pk; refine (cnone_at w1 cb true (hb.2.reads.1 44)).mono ?_; rintro e w2 ⟨rfl, hw⟩; rw [hw]; clear hw w2 hb; have fM := HM.out.fa; go_wp2_with fail; all_goals clear fM
  obtain ⟨kb, hkb⟩ : ∃ q, w1.heap.size = q := ⟨_, rfl⟩; refine nxt HM fun w4 M => ?_
  replace HM := M; clear M; rw [hkb] at HM ⊢; clear hkb; obtain ⟨_, hb⟩ := HM.out.get (r := cellsR kb 37 _) (by with_reducible repeat first | exact ph | apply pt); have hb2 : Box w4 kb 37 (tellS c 3 is).cells := hb.2; refine (craw_any w4 _ [tellS c 3 is] (sdl_one hb2 ⟨by show I64 0; unfold I64; decide, by show ([] : List UInt8).length ≤ _; simp, by show ([] : List UInt8).length ≤ _; simp, by show ([] : List UInt8).length ≤ _; simp⟩ (by show I64 3; unfold I64; decide)) (by simp) (tabs_mem HX.out HM.out)).mono ?_; rintro r w5 ⟨v, rfl, hU⟩; replace HM := Hd (HM.out.newU hU); clear hU hb hb2; have fM := HM.out.fa; go_wp2_with fail; all_goals clear fM
  go_ret2
  rw [HS.out]; exact ⟨v, rfl, (Mem.list' (L1 := [bytR v (rawsX [tellS c 3 is]), clR cb c]) (L := []) (Mem.sub (Mem.clClose (c := c) (L := [bytR v (rawsX [tellS c 3 is])]) (Mem.sub HM.out (by repeat first | exact Sub.nil | refine Sub.cons (by with_reducible repeat first | exact ph | apply pt) ?_))) sbI)).upd⟩
 ·
  obtain ⟨lv, kv, wv, bv, hm⟩ := (Mem.start h).clOpen; have HM := Hd hm; have HX := Hd hX; clear hm h hX; go_enter Tryz.func51, Tryz.ntmps51
  have fM := HM.out.fa; go_wp2_with ((first | ((with_reducible refine at_store 37 _ _ rfl ?_); refine stW 37 _ _ rfl rfl rfl rfl HM.out infoSdc ?_; intro w9 M) | ((with_reducible refine at_alloc 37 rfl ?_); refine alW 37 rfl rfl (zeroSdc _) HM.out ?_; intro w9 n9 M)); replace HM := Hd M; clear M fM; have fM := HM.out.fa); all_goals clear fM
  rename Nat => kx
  refine nxt HM fun w1 M => ?_
  replace HM := M; clear M; obtain ⟨_, hb⟩ := HM.out.get (r := cellsR cb 112 (clC lv kv wv bv c)) pk; refine (cnone_at w1 cb true (hb.2.reads.1 44)).mono ?_; rintro e w2 ⟨rfl, hw⟩; rw [hw]; clear hw w2 hb; have fM := HM.out.fa; go_wp2_with fail; all_goals clear fM
  obtain ⟨kb, hkb⟩ : ∃ q, w1.heap.size = q := ⟨_, rfl⟩; refine nxt HM fun w4 M => ?_
  replace HM := M; clear M; rw [hkb] at HM ⊢; clear hkb; obtain ⟨_, hb⟩ := HM.out.get (r := cellsR kb 37 _) (by with_reducible repeat first | exact ph | apply pt); have hb2 : Box w4 kb 37 (tellS c 6 is).cells := hb.2; refine (craw_any w4 _ [tellS c 6 is] (sdl_one hb2 ⟨by show I64 0; unfold I64; decide, by show ([] : List UInt8).length ≤ _; simp, by show ([] : List UInt8).length ≤ _; simp, by show ([] : List UInt8).length ≤ _; simp⟩ (by show I64 6; unfold I64; decide)) (by simp) (tabs_mem HX.out HM.out)).mono ?_; rintro r w5 ⟨v, rfl, hU⟩; replace HM := Hd (HM.out.newU hU); clear hU hb hb2; have fM := HM.out.fa; go_wp2_with fail; all_goals clear fM
  go_ret2
  rw [HS.out]; exact ⟨v, rfl, (Mem.list' (L1 := [bytR v (rawsX [tellS c 6 is]), clR cb c]) (L := []) (Mem.sub (Mem.clClose (c := c) (L := [bytR v (rawsX [tellS c 6 is])]) (Mem.sub HM.out (by repeat first | exact Sub.nil | refine Sub.cons (by with_reducible repeat first | exact ph | apply pt) ?_))) sbI)).upd⟩
 ·
  obtain ⟨lv, kv, wv, bv, hm⟩ := (Mem.start h).clOpen; have HM := Hd hm; have HX := Hd hX; clear hm h hX; go_enter Tryz.func51, Tryz.ntmps51
  have fM := HM.out.fa; go_wp2_with ((first | ((with_reducible refine at_store 37 _ _ rfl ?_); refine stW 37 _ _ rfl rfl rfl rfl HM.out infoSdc ?_; intro w9 M) | ((with_reducible refine at_alloc 37 rfl ?_); refine alW 37 rfl rfl (zeroSdc _) HM.out ?_; intro w9 n9 M)); replace HM := Hd M; clear M fM; have fM := HM.out.fa); all_goals clear fM
  rename Nat => kx
  refine nxt HM fun w1 M => ?_
  replace HM := M; clear M; obtain ⟨_, hb⟩ := HM.out.get (r := cellsR cb 112 (clC lv kv wv bv c)) pk; refine (cnone_at w1 cb true (hb.2.reads.1 44)).mono ?_; rintro e w2 ⟨rfl, hw⟩; rw [hw]; clear hw w2 hb; have fM := HM.out.fa; go_wp2_with fail; all_goals clear fM
  obtain ⟨kb, hkb⟩ : ∃ q, w1.heap.size = q := ⟨_, rfl⟩; refine nxt HM fun w4 M => ?_
  replace HM := M; clear M; rw [hkb] at HM ⊢; clear hkb; obtain ⟨_, hb⟩ := HM.out.get (r := cellsR kb 37 _) (by with_reducible repeat first | exact ph | apply pt); have hb2 : Box w4 kb 37 (tellS c 7 is).cells := hb.2; refine (craw_any w4 _ [tellS c 7 is] (sdl_one hb2 ⟨by show I64 0; unfold I64; decide, by show ([] : List UInt8).length ≤ _; simp, by show ([] : List UInt8).length ≤ _; simp, by show ([] : List UInt8).length ≤ _; simp⟩ (by show I64 7; unfold I64; decide)) (by simp) (tabs_mem HX.out HM.out)).mono ?_; rintro r w5 ⟨v, rfl, hU⟩; replace HM := Hd (HM.out.newU hU); clear hU hb hb2; have fM := HM.out.fa; go_wp2_with fail; all_goals clear fM
  go_ret2
  rw [HS.out]; exact ⟨v, rfl, (Mem.list' (L1 := [bytR v (rawsX [tellS c 7 is]), clR cb c]) (L := []) (Mem.sub (Mem.clClose (c := c) (L := [bytR v (rawsX [tellS c 7 is])]) (Mem.sub HM.out (by repeat first | exact Sub.nil | refine Sub.cons (by with_reducible repeat first | exact ph | apply pt) ?_))) sbI)).upd⟩
end
section
attribute [local go_sem] Oper.semAt_some
theorem eq_sliceE (w : World) (p : Addr) (n c : Nat) : (binOp .eql 39 (.slice (some p) n c) (.slice none 0 0)).run Tryz.prog w = .ok (.bool false) w := by kernel_rfl
theorem eq_noneE (w : World) (c : Nat) : (binOp .eql 39 (.slice none 0 c) (.slice none 0 0)).run Tryz.prog w = .ok (.bool true) w := by kernel_rfl
theorem eclone_any {A : Nat → Prop} (w : World) (v : Value) (l : List En) (h : (rowR tenE v l).p A w) (hl : l.length ≤ 1000000) :
 Calls Tryz.prog 56 #[v] w fun e w' => ∃ v', e = .returned v' ∧ Upd NoB w w' (rowR tenE v' l) := by
 obtain ⟨a, c, rfl⟩ := row_len h; have HM := Hd (Mem.start0 w); have HR := Hd h; cases a with
 | none =>
   obtain rfl : l = [] := by
    obtain ⟨-, -, ⟨h1, h2⟩ | ⟨g, o, cap, h1, h2, h3, -⟩⟩ := h
    · exact List.eq_nil_of_length_eq_zero h2
    · cases h1
   clear h; have hq := eq_noneE; go_enter Tryz.func56, Tryz.ntmps56
   go_wp2_with fail; go_ret; exact ⟨_, rfl, (HM.out.nilRow (E := tenE)).upd⟩
 | some ad =>
   clear h; have hq := eq_sliceE; go_enter Tryz.func56, Tryz.ntmps56
   go_wp2_with (at_builtin; refine standing ?_); have hE1 : Ext w (w.alloc (Obj.cells #[] 35)) := (Keeps.refl NoB w).alloc _; obtain ⟨i0, hi, hz0, hz1, hz2⟩ := info_parts infoTen; have hsrc : RowAt tenE (w.alloc (Obj.cells #[] 35)) 0 (.slice (some ad) l.length c) l := RowAt.ext (show RowAt tenE w 0 (.slice (some ad) l.length c) l from HR.out.2) hE1; obtain ⟨v9, w9, hr, hrow, hE9⟩ := fresh_append (E := tenE) (P := Tryz.prog) 39 39 39 35 i0 _ 40 Tryz.underlying39 Tryz.underlying39 hi hz0 hz1 hz2 rfl hE1 (RowAt.empty (g := w.heap.size) (Nat.le_refl _) (by simp)) _ l hsrc.src (by simp [maxLen]; omega) (by simp; omega); rw [List.nil_append] at hrow; replace HM := Hd (HM.out.newRow hE9 hrow); refine ⟨?_⟩; refine wpList_append_ran rfl _ _ hr rfl rfl rfl ?_; clear hr hrow hE9 hE1 hsrc; go_wp2_with fail; go_ret; exact ⟨_, rfl, HM.out.upd⟩
def intE : Enc Int := ⟨fun n => [.int .i64 n], 1, fun _ => rfl, fun x u hu => by
 simp only [List.mem_cons, List.not_mem_nil, or_false] at hu; rw [hu]; rfl⟩
theorem infoIn : (Tryz.prog.info? 3).map (fun i => (i.zero, i.size, i.bytes)) = some (some (.int .i64 0), 1, 8) := by kernel_rfl
theorem add_in {F : Nat → Prop} {w0 w : World} {L : List Res} {v : Value} {l : List Int} (ty : TypeId) (h : Mem F w0 w (rowR intE v l :: L)) (b c : Nat) (x : Int) (hb : ∀ o, w.cell? ⟨b, o, none⟩ = (intE.cells x)[o]?) (hl : l.length < 1000000) :
 ∃ v' w', (Builtin.append_ #[40, 40] ty #[v, .slice (some ⟨b, 0, none⟩) 1 c]).run Tryz.prog w = .ok v' w' ∧ Mem F w0 w' (rowR intE v' (l ++ [x]) :: L) := by
 obtain ⟨i0, hi, hz0, hz1, hz2⟩ := info_parts infoIn; exact Mem.rowAdd 40 40 ty 3 i0 _ 8 Tryz.underlying40 Tryz.underlying40 hi hz0 hz1 hz2 rfl h b c x hb (by simp [maxLen]; omega) (by omega)
def placesL : Nat → List Bool → List Int
 | _, [] => []
 | k, b :: l => if b then (k : Int) :: placesL (k + 1) l else placesL (k + 1) l
theorem placesL_len : ∀ (l : List Bool) (k : Nat), (placesL k l).length ≤ l.length
 | [], _ => Nat.le_refl _
 | b :: l, k => by
   unfold placesL; have := placesL_len l (k + 1); split
   · simp only [List.length_cons]; omega
   · simp only [List.length_cons]; omega
theorem placesL_snoc : ∀ (l : List Bool) (b : Bool) (k : Nat), placesL k (l ++ [b]) = placesL k l ++ (if b then [((k + l.length : Nat) : Int)] else [])
 | [], b, k => by simp [placesL]
 | x :: l, b, k => by
   rw [List.cons_append, placesL, placesL, placesL_snoc l b (k + 1), show k + 1 + l.length = k + (x :: l).length by simp; omega]; split <;> rfl
theorem places_any (w : World) (b o : Nat) (l : List Bool) (hl : l.length ≤ 1000) (hc : ∀ i (h : i < l.length), w.cell? ⟨b, o + i, none⟩ = some (.bool l[i])) :
 Calls Tryz.prog 57 #[.slice (some ⟨b, o, none⟩) l.length l.length] w fun e w' => ∃ v, e = .returned v ∧ Upd NoB w w' (rowR intE v (placesL 0 l)) := by
 have HC := Hd hc; have HM := Hd ((Mem.start0 w).nilRow (E := intE)); obtain ⟨n, hn⟩ : ∃ n, l.length = n := ⟨_, rfl⟩; have HN := Hd hn; rw [hn] at hl ⊢; clear hc hn; have hll : (n : Int) ≤ 1000 := by omega
 go_enter Tryz.func57, Tryz.ntmps57
 go_wp2_with fail; go_loopw [2, 7] (fun q i wr => ∃ (k : Nat) (a : Option Addr) (d : Nat) (m : List Int), k ≤ n ∧ q = .slice a m.length d ∧ i = .int .i64 k ∧ Hid (m = placesL 0 (l.take k)) ∧ Hid (Mem NoB w wr [rowR intE (.slice a m.length d) m])) (fun _ i _ => n - (intOf i).toNat)
 case atStart =>
  have hm0 : Mem NoB w w [rowR intE (.slice none 0 0) []] := HM.out; exact ⟨0, none, 0, [], Nat.zero_le _, rfl, rfl, Hd (by simp [placesL]), Hd hm0⟩
 case round =>
  clear HM; obtain ⟨k, a, d, m, hk, rfl, rfl, HL, HM⟩ := hrel; by_cases hlt : k < n
  · have hkl : k < l.length := by have := HN.out; omega
    have c0 := HM.out.extTo.cell (HC.out k hkl)
    have HSN := Hd (show placesL 0 (l.take (k + 1)) = m ++ (if l[k] then [(k : Int)] else []) by
     rw [HL.out, List.take_succ_eq_append_getElem hkl, placesL_snoc, List.length_take, Nat.min_eq_left (by omega), Nat.zero_add])
    have HLL := Hd (show m.length ≤ 1000 by
     have h1 := placesL_len (l.take k) 0; rw [← HL.out, List.length_take] at h1
     omega)
    obtain ⟨y, hy⟩ : ∃ y, l[k] = y := ⟨_, rfl⟩; rw [hy] at c0 HSN; have g1 : (k : Int) < (n : Int) := by omega
    have g2 : ¬ (k : Int) < 0 := by omega
    clear hy hkl; cases y
    · rw [if_neg (by simp), List.append_nil] at HSN
      go_wp2_with fail; clear c0; go_roundw
      case rel => exact ⟨k + 1, a, d, m, by omega, rfl, by go_num, Hd HSN.out.symm, HM⟩
      case measure => simp [intOf]; omega
    · rw [if_pos rfl] at HSN
      go_wp2_with (at_builtin; refine standing ?_); clear c0; refine nxt HM fun w5 M => ?_
      replace HM := M; clear M; obtain ⟨_, hb⟩ := HM.out.get (r := cellsR wr.heap.size 3 _) (by with_reducible repeat first | exact ph | apply pt); obtain ⟨v6, w6, hr, hm6⟩ := add_in 40 (HM.out.pick (r := rowR intE (.slice a m.length d) m) pk) _ 1 (k : Int) hb.2.reads.1 (by have := HLL.out; omega); obtain ⟨l2, hl2⟩ : ∃ q, m ++ [(k : Int)] = q := ⟨_, rfl⟩; rw [hl2] at hm6 HSN; obtain ⟨a6, c6, rfl⟩ := hm6.fact (fun A h => row_len h); replace HM := Hd hm6; refine ⟨?_⟩; refine wpList_append_ran rfl _ _ hr rfl rfl rfl ?_; clear hr hm6 hb hl2; go_wp2_with fail; go_roundw
      case rel => exact ⟨k + 1, a6, c6, l2, by omega, rfl, by go_num, Hd HSN.out.symm, Hd (Mem.sub HM.out sbI)⟩
      case measure => simp [intOf]; omega
  · obtain rfl : k = n := by omega
    rw [List.take_of_length_le (by have := HN.out; omega)] at HL; go_wp2_with fail; go_ret; rw [← HL.out]; exact ⟨_, rfl, HM.out.upd⟩
end
end Go.Proofs.YtoadjbgpfihoiaaGreatDoor
