/- Texts DU, DV, DW, SAct, SAct2, SAct3, SAct4, SLong, SFew, STaken, SNone, SWkP, SWorks, SBase, STellsP, CA, CB, CC, CD, one behind the other. Conditions: as each says. -/
import Derived.Test.YtoadjbgpfihoiaaGreatDoorFuI
import Derived.Test.YtoadjbgpfihoiaaGreatDoorFuZD
set_option linter.unusedVariables false
set_option linter.unusedSimpArgs false
set_option maxHeartbeats 8000000
set_option maxRecDepth 100000
namespace Go.Proofs.YtoadjbgpfihoiaaGreatDoor
open Go.RowKit



structure Sc where
 what : Int
 index : Int
 now : Int
 e : En
 token : List UInt8
 said : Sd
abbrev Sc.cells (x : Sc) : List Value := [.int .i64 x.what, .int .i64 x.index, .int .i64 x.now, .int .i64 x.e.kind, .int .i64 x.e.member, .int .i64 x.e.number, .string (bs x.e.text), .string (bs x.token), .int .i64 x.said.kind, .int .i64 x.said.member, .int .i64 x.said.number, .int .i64 x.said.index, .bool x.said.is, .string (bs x.said.text), .string (bs x.said.token), .int .i64 x.said.e.kind, .int .i64 x.said.e.member, .int .i64 x.said.e.number, .string (bs x.said.e.text)]
def Sc.v (x : Sc) : Value := .agg x.cells.toArray
structure OkSc (x : Sc) : Prop where
 ek : I64 x.e.kind
 sk : I64 x.said.kind
 sek : I64 x.said.e.kind
 now : I64 x.now
 index : I64 x.index
def longS (x : Sc) : Bool := decide (300 < x.e.text.length) || decide (300 < x.token.length) || decide (300 < x.said.text.length) || decide (300 < x.said.token.length) || decide (300 < x.said.e.text.length)




def Scs (w : World) (A : Nat → Prop) (v : Value) (ls : List Sc) : Prop := SlV A (AtOf w 19 fun cs (x : Sc) => cs = x.cells ∧ OkSc x) 19 v ls
theorem Scs.len {w : World} {A : Nat → Prop} {v : Value} {ls : List Sc} (h : Scs w A v ls) : ∃ a c, v = .slice a ls.length c := by
 rcases h with ⟨a, rfl, rfl⟩ | ⟨b, o, c, rfl, _⟩
 · exact ⟨_, _, rfl⟩
 · exact ⟨_, _, rfl⟩
theorem Scs.at {w : World} {A : Nat → Prop} {a : Option Addr} {n c : Nat} {ls : List Sc} (h : Scs w A (.slice a n c) ls) (i : Nat) (hi : i < ls.length) :
 ∃ g o, a = some ⟨g, o, none⟩ ∧ n = ls.length ∧ A g ∧ OkSc ls[i] ∧ ∀ j, j < 19 → w.cell? ⟨g, o + i * 19 + j, none⟩ = (ls[i].cells)[j]? := by
 rcases h with ⟨a', h1, h2⟩ | ⟨b, o, c', h1, h2, h3, h4⟩
 · rw [h2] at hi; cases hi
 · cases h1
   obtain ⟨cs, ⟨e1, e2⟩, e4, e5⟩ := h4 i hi; rw [e1] at e5; exact ⟨b, o, rfl, rfl, h3, e2, e5⟩
theorem elM' {P : Program} {o : Oper} {a : Act} {w : World} {b k : Nat} {v : Value} (ty : TypeId) (x : Operand) (ho : o.op = .load ty x) (hx : a.eval x = .pointer (some ⟨b, k, none⟩)) (h : (Instr.loadAt ty (.pointer (some ⟨b, k, none⟩))).run P w = .ok v w) : (execOp a.eval o).run P w = .ok (.value v) w := by
 simp [execOp, ho, hx, Result.andThen, h]

def NoS (w : World) (p : Option Addr) : Prop := p = none ∨ ∃ b, p = some ⟨b, 0, none⟩ ∧ w.cell? ⟨b, 0, none⟩ = some (.pointer none)
theorem NoS.ext {w w' : World} {p : Option Addr} (h : NoS w p) (e : Ext w w') : NoS w' p := h.imp id fun ⟨b, h1, h2⟩ => ⟨b, h1, e.cell h2⟩


theorem Scs.keeps {S : Nat → Prop} {w w' : World} {A : Nat → Prop} {v : Value} {ls : List Sc} (h : Scs w A v ls) (e : Keeps S w w') (hs : ∀ k, A k → ¬ S k) : Scs w' A v ls := by
 rcases h with ⟨a, h1, h2⟩ | ⟨b, o, c, h1, h2, h3, h4⟩
 · exact .inl ⟨a, h1, h2⟩
 · refine .inr ⟨b, o, c, h1, h2, h3, fun i hi => ?_⟩
   obtain ⟨cs, ⟨e1, e2⟩, e4, e5⟩ := h4 i hi; refine ⟨cs, ⟨e1, e2⟩, e4, fun j hj => ?_⟩; have h5 := e5 j hj; have h6 : cs[j]? = some (cs[j]'(by rw [e4]; exact hj)) := List.getElem?_eq_getElem _; rw [h6] at h5 ⊢; exact e.cell (hs b h3) h5
theorem Scs.ext {w w' : World} {A : Nat → Prop} {v : Value} {ls : List Sc} (h : Scs w A v ls) (e : Ext w w') : Scs w' A v ls := h.keeps e fun _ _ => noB _
theorem Scs.ok {w : World} {A : Nat → Prop} {a : Option Addr} {n c : Nat} {ls : List Sc} (h : Scs w A (.slice a n c) ls) (i : Nat) (hi : i < ls.length) : OkSc ls[i] := let ⟨_, _, _, _, _, h, _⟩ := h.at i hi; h
def fewS (ls : List Sc) (most : Int) : Bool := (ls.all fun x => !longS x) && decide ((ls.length : Int) ≤ most)
theorem fewS.len {ls : List Sc} {most : Int} (h : fewS ls most = true) : (ls.length : Int) ≤ most := by
 unfold fewS at h; rw [Bool.and_eq_true] at h; simpa using h.2
def tenE : Enc En := ⟨En.cells, 4, fun _ => rfl, fun x u hu => by
 simp only [En.cells, List.mem_cons, List.not_mem_nil, or_false] at hu; rcases hu with rfl | rfl | rfl | rfl <;> rfl⟩
theorem infoTen : (Tryz.prog.info? 35).map (fun i => (i.zero, i.size, i.bytes)) = some (some (.agg #[.int .i64 0, .int .i64 0, .int .i64 0, .string ⟨#[]⟩]), 4, 40) := by kernel_rfl
theorem add_ten {F : Nat → Prop} {w0 w : World} {L : List Res} {v : Value} {l : List En} (ty : TypeId) (h : Mem F w0 w (rowR tenE v l :: L)) (b c : Nat) (x : En) (hb : ∀ o, w.cell? ⟨b, o, none⟩ = (tenE.cells x)[o]?) (hl : l.length < 1000000) :
 ∃ v' w', (Builtin.append_ #[39, 39] ty #[v, .slice (some ⟨b, 0, none⟩) 1 c]).run Tryz.prog w = .ok v' w' ∧ Mem F w0 w' (rowR tenE v' (l ++ [x]) :: L) := by
 obtain ⟨i0, hi, hz0, hz1, hz2⟩ := info_parts infoTen; exact Mem.rowAdd 39 39 ty 35 i0 _ 40 Tryz.underlying39 Tryz.underlying39 hi hz0 hz1 hz2 rfl h b c x hb (by simp [maxLen]; omega) (by omega)
section
structure Bx where
 a : Bool
 b : Bool
 c : Bool
 d : Bool
 e : Bool
 f : Bool
 g : Bool
 h : Bool
 i : Bool
 j : Bool
 k : Bool
 l : Bool
 m : Bool
 n : Bool
 o : Bool
 p : Bool
deriving DecidableEq
abbrev Bx.none : Bx := ⟨false, false, false, false, false, false, false, false, false, false, false, false, false, false, false, false⟩
abbrev Bx.list (x : Bx) : List Bool := [x.a, x.b, x.c, x.d, x.e, x.f, x.g, x.h, x.i, x.j, x.k, x.l, x.m, x.n, x.o, x.p]
abbrev Bx.cells (x : Bx) : List Value := [.bool x.a, .bool x.b, .bool x.c, .bool x.d, .bool x.e, .bool x.f, .bool x.g, .bool x.h, .bool x.i, .bool x.j, .bool x.k, .bool x.l, .bool x.m, .bool x.n, .bool x.o, .bool x.p]
structure Cm where
 token : List UInt8
 lines : List En
 next : Int
structure Cl where
 m : Cm
 k : Cm
 member : Int
 made : Int
 waits : List En
 ty : Bx
 he : Bx
 bytes : List UInt8
 on : Bool
 gr : Bool
 why : Int
abbrev clC (lv kv wv bv : Value) (c : Cl) : List Value := [.string (bs c.m.token), lv, .int .i64 c.m.next, .string (bs c.k.token), kv, .int .i64 c.k.next, .int .i64 c.member, .int .i64 c.made, wv,
 .bool c.ty.a, .bool c.ty.b, .bool c.ty.c, .bool c.ty.d, .bool c.ty.e, .bool c.ty.f, .bool c.ty.g, .bool c.ty.h, .bool c.ty.i, .bool c.ty.j, .bool c.ty.k, .bool c.ty.l, .bool c.ty.m, .bool c.ty.n, .bool c.ty.o, .bool c.ty.p,
 .bool c.he.a, .bool c.he.b, .bool c.he.c, .bool c.he.d, .bool c.he.e, .bool c.he.f, .bool c.he.g, .bool c.he.h, .bool c.he.i, .bool c.he.j, .bool c.he.k, .bool c.he.l, .bool c.he.m, .bool c.he.n, .bool c.he.o, .bool c.he.p,
 bv, .bool c.on, .bool c.gr, .bool true, .int .i64 c.why]
def linR (lv kv : Value) (l k : List En) : Res := anyR (fun F w => (∃ A, (rowR tenE lv l).p A w ∧ ∀ i, A i → F i) ∧ (∃ A, (rowR tenE kv k).p A w ∧ ∀ i, A i → F i) ∧ ∀ i, F i → i < w.heap.size)
 (fun h hk hs => ⟨let ⟨A, h1, h2⟩ := h.1; ⟨A, Res.keeps _ h1 hk fun i hi => hs i (h2 i hi), h2⟩, let ⟨A, h1, h2⟩ := h.2.1; ⟨A, Res.keeps _ h1 hk fun i hi => hs i (h2 i hi), h2⟩, fun i hF => Nat.lt_of_lt_of_le (h.2.2 i hF) hk.size⟩) (fun h => h.2.2)
abbrev clL (cb : Nat) (lv kv wv bv : Value) (c : Cl) : List Res := [cellsR cb 112 (clC lv kv wv bv c), linR lv kv c.m.lines c.k.lines, rowR tenE wv c.waits, readR bv c.bytes]
def clR (cb : Nat) (c : Cl) : Res := someR fun p : Value × Value × Value × Value => listR (clL cb p.1 p.2.1 p.2.2.1 p.2.2.2 c)
section
variable {F : Nat → Prop} {w0 w : World} {L : List Res} {cb : Nat} {lv kv wv bv : Value} {c : Cl}
theorem Mem.clOpen (h : Mem F w0 w (clR cb c :: L)) : ∃ lv kv wv bv, Mem F w0 w (cellsR cb 112 (clC lv kv wv bv c) :: linR lv kv c.m.lines c.k.lines :: rowR tenE wv c.waits :: readR bv c.bytes :: L) := by
 obtain ⟨p, hp⟩ := h.openE (M := fun p : Value × Value × Value × Value => clL cb p.1 p.2.1 p.2.2.1 p.2.2.2 c) (fun A ⟨p, hp⟩ => ⟨p, A, hp, fun _ h => h⟩); exact ⟨_, _, _, _, hp⟩
theorem Mem.clClose (h : Mem F w0 w (cellsR cb 112 (clC lv kv wv bv c) :: linR lv kv c.m.lines c.k.lines :: rowR tenE wv c.waits :: readR bv c.bytes :: L)) : Mem F w0 w (clR cb c :: L) :=
 Mem.close (L1 := clL cb lv kv wv bv c) h fun A hA => ⟨(lv, kv, wv, bv), hA⟩
end
theorem cnone_at (w : World) (b : Nat) (q : Bool) (h : w.cell? ⟨b, 44, none⟩ = some (.bool q)) : Calls Tryz.prog 52 #[.pointer (some ⟨b, 0, none⟩)] w fun e w' => e = .returned (.bool (!q)) ∧ w' = w := by
 go_enter Tryz.func52, Tryz.ntmps52
 go_wp2_with fail; go_ret; exact ⟨rfl, rfl⟩
theorem cmust_ok (w : World) (n : Int) : Calls Tryz.prog 124 #[.bool true, .int .i64 n] w fun e w' => e = .returned (.tuple #[]) ∧ w' = w := by
 go_enter Tryz.func124, Tryz.ntmps124
 go_wp2_with fail; go_end0
 exact ⟨rfl, rfl⟩
end
section
attribute [local go_sem] Oper.semAt_some
theorem infoSdc : (Tryz.prog.info? 37).map (·.size) = some 11 := by kernel_rfl
abbrev zSdc : List Value := [.int .i64 0, .int .i64 0, .int .i64 0, .int .i64 0, .bool false, .string ⟨#[]⟩, .string ⟨#[]⟩, .int .i64 0, .int .i64 0, .int .i64 0, .string ⟨#[]⟩]
theorem zeroSdc (w : World) : (zeroValue 37).run Tryz.prog w = .ok (.agg zSdc.toArray) w := by kernel_rfl
def Sdl (w : World) (A : Nat → Prop) (v : Value) (l : List Sd) : Prop := SlV A (AtOf w 11 fun cs (x : Sd) => cs = x.cells ∧ OkS x ∧ I64 x.kind) 11 v l
theorem Sdl.len {w : World} {A : Nat → Prop} {v : Value} {l : List Sd} (h : Sdl w A v l) : ∃ a c, v = .slice a l.length c := by
 rcases h with ⟨a, rfl, rfl⟩ | ⟨b, o, c, rfl, _⟩
 · exact ⟨_, _, rfl⟩
 · exact ⟨_, _, rfl⟩
theorem Sdl.at {w : World} {A : Nat → Prop} {a : Option Addr} {n c : Nat} {l : List Sd} (h : Sdl w A (.slice a n c) l) (i : Nat) (hi : i < l.length) :
 ∃ g o, a = some ⟨g, o, none⟩ ∧ n = l.length ∧ A g ∧ (OkS l[i] ∧ I64 l[i].kind) ∧ ∀ j, j < 11 → w.cell? ⟨g, o + i * 11 + j, none⟩ = (l[i].cells)[j]? := by
 rcases h with ⟨a', h1, h2⟩ | ⟨b, o, c', h1, h2, h3, h4⟩
 · rw [h2] at hi; cases hi
 · cases h1
   obtain ⟨cs, ⟨e1, e2⟩, e4, e5⟩ := h4 i hi; rw [e1] at e5; exact ⟨b, o, rfl, rfl, h3, e2, e5⟩
theorem sd_load {w : World} {g o : Nat} {x : Sd} (h : ∀ j, j < 11 → w.cell? ⟨g, o + j, none⟩ = (x.cells)[j]?) : (Instr.loadAt 37 (.pointer (some ⟨g, o, none⟩))).run Tryz.prog w = .ok (.agg x.cells.toArray) w :=
 run_loadAt_mid w g o 37 x.cells _ (fun j v hv => by
  have hj : j < 11 := (List.getElem?_eq_some_iff.1 hv).1; have h1 := h j hj; rw [hv] at h1; exact h1) Tryz.underlying37 rfl infoSdc
theorem sdl_one {w : World} {b : Nat} {t : TypeId} {x : Sd} (h : Box w b t x.cells) (hx : OkS x) (hk : I64 x.kind) : Sdl w (fun k => k = b) (.slice (some ⟨b, 0, none⟩) 1 1) [x] :=
 .inr ⟨b, 0, 1, rfl, Nat.le_refl _, rfl, fun i hi => by
  have hi2 : i < 1 := hi; obtain rfl : i = 0 := by omega
  exact ⟨x.cells, ⟨rfl, hx, hk⟩, rfl, fun j hj => by rw [Nat.zero_mul, Nat.zero_add, h.reads.1]⟩⟩
def rawX (x : Sd) : List UInt8 := if sdB x = true then rawS x else []
def rawsX (l : List Sd) : List UInt8 := (l.map rawX).flatten
theorem rawX_len (x : Sd) : (rawX x).length ≤ 484 := by
 unfold rawX; split
 · next h => exact raw_len x h
 · simp
theorem rawsX_snoc (l : List Sd) (k : Nat) (hk : k < l.length) : rawsX (l.take (k + 1)) = rawsX (l.take k) ++ rawX l[k] := by
 unfold rawsX; rw [List.take_succ_eq_append_getElem hk, List.map_append, List.flatten_append]; simp
theorem rawsX_len (l : List Sd) : (rawsX l).length ≤ 484 * l.length := by
 induction l with
 | nil => simp [rawsX]
 | cons x l ih =>
   have h1 := rawX_len x; have h2 : rawsX (x :: l) = rawX x ++ rawsX l := rfl; rw [h2, List.length_append, List.length_cons]; omega
theorem fraw_any (w : World) (hT : Tabs w) (x : Sd) (hx : OkS x) (hk : I64 x.kind) : Calls Tryz.prog 92 #[x.v] w fun e w' => ∃ v n, e = .returned (.tuple #[v, .int .i64 n]) ∧ Upd NoB w w' (bytR v (rawX x)) := by
 cases hb : sdB x
 · refine (raw_bad w w hT (Keeps.refl _ _) x hx hk hb).mono ?_
   rintro e w' ⟨rfl, hE⟩; refine ⟨_, _, rfl, ?_⟩; unfold rawX; rw [hb, if_neg (by simp)]; exact ((Mem.start0 w).ext hE).bytNil.upd
 · refine (raw_ok w w hT (Keeps.refl _ _) x hx hb).mono ?_
   rintro e w' ⟨v, rfl, hU⟩; refine ⟨_, _, rfl, ?_⟩; unfold rawX; rw [if_pos hb]; exact hU
theorem craw_any {A : Nat → Prop} (w : World) (v : Value) (l : List Sd) (h : Sdl w A v l) (hl : l.length ≤ 1000) (hT : Tabs w) :
 Calls Tryz.prog 53 #[v] w fun e w' => ∃ v', e = .returned v' ∧ Upd NoB w w' (bytR v' (rawsX l)) := by
 obtain ⟨a0, c0, rfl⟩ := h.len; have HV := Hd h; have HT := Hd hT; have HM := Hd ((Mem.start0 w).bytNil); clear h hT; go_enter Tryz.func53, Tryz.ntmps53
 go_wp2_with fail; go_loopw [2, 9] (fun o i wr => ∃ (k : Nat) (a : Option Addr) (c : Nat), k ≤ l.length ∧ o = .slice a (rawsX (l.take k)).length c ∧ i = .int .i64 k ∧ Hid (Mem NoB w wr [bytR (.slice a (rawsX (l.take k)).length c) (rawsX (l.take k))])) (fun _ i _ => l.length - (intOf i).toNat)
 case atStart => exact ⟨0, none, 0, Nat.zero_le _, rfl, rfl, HM⟩
 case round =>
  clear HM; obtain ⟨k, a, c, hk, rfl, rfl, HM⟩ := hrel; by_cases hlt : k < l.length
  · have HSN := Hd (rawsX_snoc l k hlt)
    have hln := rawsX_len (l.take k); rw [List.length_take, Nat.min_eq_left hk] at hln; obtain ⟨g, o, rfl, -, -, hox, hat⟩ := HV.out.at k hlt; obtain ⟨x, hx⟩ : ∃ x, l[k] = x := ⟨_, rfl⟩; rw [hx] at HSN hox hat; obtain ⟨out, ho⟩ : ∃ out, rawsX (l.take k) = out := ⟨_, rfl⟩; rw [ho] at HSN HM hln; rw [ho]
    have hld := sd_load (w := wr) (g := g) (o := o + k * 11) (x := x) (fun j hj => by
     have h1 := hat j hj; have h2 : x.cells[j]? = some (x.cells[j]'(by exact hj)) := List.getElem?_eq_getElem _; rw [h2] at h1 ⊢; exact HM.out.extTo.cell h1)
    have HOX := Hd hox; have HLN := Hd (show out.length ≤ 484000 by omega); have g1 : (k : Int) < (l.length : Int) := by omega
    have g2 : ¬ (k : Int) < 0 := by omega
    have hll : (l.length : Int) ≤ 1000 := by omega
    clear hat hox hx ho hln; have fM := HM.out.fa
    go_wp2_with (first
     | ((with_reducible refine at_list ?_); (with_reducible refine at_load 37 _ rfl ?_); refine wpList_ran rfl (elM' 37 _ rfl rfl hld) ?_)
     | ((with_reducible refine at_list ?_); (with_reducible refine at_alloc 37 rfl ?_); refine alW 37 rfl rfl (zeroSdc _) HM.out ?_; intro w9 kx M; refine standing ?_))
    replace HM := Hd M; clear M fM hld; refine ⟨?_⟩; have fM := HM.out.fa; go_wp2_with (first | ((with_reducible refine at_load 37 _ rfl ?_); refine ldW 37 _ rfl rfl rfl HM.out Tryz.underlying37 rfl infoSdc ?_) | (((with_reducible refine at_store 37 _ _ rfl ?_); refine stW 37 _ _ rfl rfl rfl rfl HM.out infoSdc ?_; intro w9 M); replace HM := Hd M; clear M fM; have fM := HM.out.fa)); all_goals clear fM
    refine nxt HM fun w10 M => ?_
    replace HM := M; clear M; refine (fraw_any w10 (HT.out.ext HM.out.extTo) x HOX.out.1 HOX.out.2).mono ?_; rintro r w11 ⟨vb, n, rfl, hU⟩; replace HM := Hd (HM.out.newU hU); obtain ⟨ab, cb, rfl⟩ := HM.out.fact fun A h => bytR.len h
    clear hU; have fM := HM.out.fa
    go_wp2_with (first
     | ((with_reducible refine at_list ?_); first
       | ((with_reducible refine at_load 37 _ rfl ?_); refine ldW 37 _ rfl rfl rfl HM.out Tryz.underlying37 rfl infoSdc ?_)
       | ((first
         | ((with_reducible refine at_store 37 _ _ rfl ?_); refine stW 37 _ _ rfl rfl rfl rfl HM.out infoSdc ?_; intro w9 M)
         | ((with_reducible refine at_box 37 _ rfl ?_); refine boW 37 _ rfl rfl rfl HM.out ?_; intro w9 n9 M)
         | ((with_reducible refine at_alloc 37 rfl ?_); refine alW 37 rfl rfl (zeroSdc _) HM.out ?_; intro w9 n9 M)); replace HM := Hd M; clear M fM; have fM := HM.out.fa))
     | (at_builtin; refine standing ?_))
    all_goals clear fM
    refine nxt HM fun w12 M => ?_
    replace HM := M; clear M; obtain ⟨A5, hb5, hlt5⟩ := (HM.out.pick (r := bytR (.slice ab (rawX x).length cb) (rawX x)) pk).byt; obtain ⟨v9, w13, hr, hm⟩ := Mem.bytAdd 27 (HM.out.pick (r := bytR (.slice a out.length c) out) pk) _ (rawX x) hb5 (by have := HLN.out; have := rawX_len x; omega); rw [← HSN.out] at hm; obtain ⟨a9, c9, rfl⟩ := hm.fact (fun A h => bytR.len h); replace HM := Hd hm; refine ⟨?_⟩; refine wpList_append_ran rfl _ _ hr rfl rfl rfl ?_; clear hr hm hb5 hlt5; clear A5; have fM := HM.out.fa; go_wp2_with fail; all_goals clear fM
    go_roundw
    case rel => exact ⟨k + 1, a9, c9, by omega, rfl, by go_num, Hd (Mem.sub HM.out sbI)⟩
    case measure => simp [intOf]; omega
  · obtain rfl : k = l.length := by omega
    rw [List.take_length] at HM ⊢; have fM := HM.out.fa; go_wp2_with fail; all_goals clear fM
    go_ret; exact ⟨_, rfl, HM.out.upd⟩
end
section
attribute [local go_sem] Oper.semAt_some
theorem row_nil0 (w : World) : (rowR tenE (.slice none 0 0) []).p (fun _ => False) w := ⟨fun k => ⟨fun h => h.elim, fun h => by cases h⟩, Win.nil w 0 4⟩
theorem Mem.linNil {F : Nat → Prop} {w0 w : World} {L : List Res} (h : Mem F w0 w L) : Mem F w0 w (linR (.slice none 0 0) (.slice none 0 0) [] [] :: L) :=
 h.new (r := linR (.slice none 0 0) (.slice none 0 0) [] []) (G := fun _ => False) (Keeps.refl _ _) ⟨⟨_, row_nil0 w, fun _ h => h⟩, ⟨_, row_nil0 w, fun _ h => h⟩, fun _ h => h.elim⟩ (fun k h => h.elim)
theorem Mem.readNil {F : Nat → Prop} {w0 w : World} {L : List Res} (h : Mem F w0 w L) : Mem F w0 w (readR (.slice none 0 0) [] :: L) :=
 h.new (r := readR (.slice none 0 0) []) (G := fun _ => False) (Keeps.refl _ _) ⟨bytes_nil0, fun _ h => h.elim⟩ (fun k h => h.elim)
abbrev newC (member : Int) (inv : List UInt8) : Cl := ⟨⟨inv, [], -1⟩, ⟨inv, [], -1⟩, member, 0, [], Bx.none, Bx.none, [], false, false, 0⟩
theorem cnew_yes (w : World) (member : Int) (inv : List UInt8) (h : 0 ≤ member ∧ member < 16) (hl : inv.length ≤ 200) :
 Calls Tryz.prog 10 #[.int .i64 member, .string (bs inv)] w fun e w' => ∃ cb, e = .returned (.tuple #[.pointer (some ⟨cb, 0, none⟩), .int .i64 0]) ∧ Upd NoB w w' (clR cb (newC member inv)) := by
 have k1 := bs_size inv; have g1 : ¬ member < 0 := by omega
 have g2 : ¬ (16 : Int) ≤ member := by omega
 have g3 : ¬ (200 : Int) < (inv.length : Int) := by omega
 have HM := Hd (Mem.start0 w); clear h hl; go_enter Tryz.func10, Tryz.ntmps10
 have fM := HM.out.fa; go_wp2_with (((with_reducible refine at_box 112 _ rfl ?_); refine boW 112 _ rfl rfl rfl HM.out ?_; intro w9 n9 M); replace HM := Hd M; clear M fM; have fM := HM.out.fa); all_goals clear fM
 rename Nat => cb
 clear k1 g1 g2 g3; refine nxt HM fun w1 M => ?_
 replace HM := M; clear M; go_ret2
 refine ⟨cb, rfl, ?_⟩; have h1 := HM.out.readNil.nilRow (E := tenE); have h2 := h1.linNil; exact (Mem.clClose (cb := cb) (lv := .slice none 0 0) (kv := .slice none 0 0) (wv := .slice none 0 0) (bv := .slice none 0 0) (c := newC member inv) (L := []) (Mem.sub h2 (by repeat first | exact Sub.nil | refine Sub.cons (by with_reducible repeat first | exact ph | apply pt) ?_))).upd
def sayS (e : En) : Sd := { Sd.of 4 with number := e.number, text := e.text }
theorem csaying_any (w : World) (e : En) : Calls Tryz.prog 55 #[.agg e.cells.toArray] w fun r w' => r = .returned (sayS e).v ∧ Ext w w' := by
 have HM := Hd (Mem.start0 w); unfold En.cells; go_enter Tryz.func55, Tryz.ntmps55
 have fM := HM.out.fa; go_wp2_with ((first | ((with_reducible refine at_store 37 _ _ rfl ?_); refine stW 37 _ _ rfl rfl rfl rfl HM.out infoSdc ?_; intro w9 M) | ((with_reducible refine at_alloc 37 rfl ?_); refine alW 37 rfl rfl (zeroSdc _) HM.out ?_; intro w9 n9 M)); replace HM := Hd M; clear M fM; have fM := HM.out.fa); all_goals clear fM
 refine nxt HM fun w1 M => ?_
 replace HM := M; clear M; refine bodyPost_ret (results_c rfl _ rfl (lvW 37 HM.out Tryz.underlying37 rfl infoSdc)) rfl ?_; exact ⟨rfl, HM.out.extTo⟩
theorem cend_any {A : Nat → Prop} (w : World) (cb : Nat) (c : Cl) (why : Int) (h : (clR cb c).p A w) :
 Calls Tryz.prog 116 #[.pointer (some ⟨cb, 0, none⟩), .int .i64 why] w fun e w' => e = .returned (.tuple #[]) ∧ Upd A w w' (clR cb { c with on := false, why := why, bytes := [] }) := by
 obtain ⟨lv, kv, wv, bv, hm⟩ := (Mem.start h).clOpen; have HM := Hd hm; clear hm h; go_enter Tryz.func116, Tryz.ntmps116
 have fM := HM.out.fa; go_wp2_with fail; all_goals clear fM
 refine nxt HM fun w1 M => ?_
 replace HM := M; clear M; go_end0
 have hm : Mem A w w1 [cellsR cb 112 (clC lv kv wv (.slice none 0 0) { c with on := false, why := why, bytes := [] }), linR lv kv c.m.lines c.k.lines, rowR tenE wv c.waits, readR bv c.bytes] := HM.out; exact ⟨rfl, (Mem.clClose (cb := cb) (lv := lv) (kv := kv) (wv := wv) (bv := .slice none 0 0) (c := { c with on := false, why := why, bytes := [] }) (L := []) (Mem.sub hm.readNil (by repeat first | exact Sub.nil | refine Sub.cons (by with_reducible repeat first | exact ph | apply pt) ?_))).upd⟩
def helloS (c : Cl) : Sd := { Sd.of 1 with member := c.member, token := c.m.token }
theorem cconnect_any {A : Nat → Prop} (w : World) (cb : Nat) (c : Cl) (h : (clR cb c).p A w) (hX : TabX A w) (ht : c.m.token.length ≤ 500000) :
 Calls Tryz.prog 11 #[.pointer (some ⟨cb, 0, none⟩)] w fun e w' => ∃ v, e = .returned (.tuple #[v, .int .i64 0]) ∧ Upd A w w' (listR [bytR v (rawsX [helloS c]), clR cb { c with bytes := [], on := true, gr := false }]) := by
 obtain ⟨lv, kv, wv, bv, hm⟩ := (Mem.start h).clOpen; have HM := Hd hm; have HX := Hd hX; have HTL := Hd ht; clear hm h hX ht; go_enter Tryz.func11, Tryz.ntmps11
 go_wp2_with fail; obtain ⟨_, hb⟩ := HM.out.get (r := cellsR cb 112 (clC lv kv wv bv c)) pk; refine (cnone_at w cb true (hb.2.reads.1 44)).mono ?_; rintro e w2 ⟨rfl, hw⟩; rw [hw]; clear hw w2 hb; have fM := HM.out.fa; go_wp2_with fail; all_goals clear fM
 refine nxt HM fun w1 M => ?_
 replace HM := M; clear M; have hm : Mem A w w1 [cellsR cb 112 (clC lv kv wv (.slice none 0 0) { c with bytes := [], on := true, gr := false }), linR lv kv c.m.lines c.k.lines, rowR tenE wv c.waits, readR bv c.bytes] := HM.out; replace HM := Hd hm; clear hm; have HTB := Hd (tabs_mem HX.out HM.out); have fM := HM.out.fa; have hE0 : Keeps NoB w1 w1.drew := (Keeps.refl _ _).drew; refine rgE [(0, 0), (0, 1), (0, 2), (3, 3), (0, 4), (0, 5), (0, 6), (0, 7), (3, 8), (0, 9)] [] [10, 11, 12, 13] [10, 11, 12, 13] ?_; simp only [planL, nL]; iterate 10 (first | (refine pM _ rfl rfl ?_; simp only [nP, nE]) | (refine pR (by rfl) (fun W => by go_simp <;> with_reducible rfl) ?_; simp only [nP]) | (refine pX (by rfl) (by go_simp <;> with_reducible rfl) ?_; simp only [nP]))
 refine plan_nil ?_; simp only [tailL, List.filterMap_cons, List.filterMap_nil, nL]; change wpList _ _ _ (_ :: _ :: _ :: _ :: []) _ _; go_wp2_with fail; skip
 refine Mem.callE (wr := w1) HM.out.to (by repeat (first | assumption | exact Keeps.refl _ _ | with_reducible apply Keeps.drew | with_reducible apply Keeps.alloc)) fun w3 M hE3 => ?_
 replace HM := Hd M; clear M; obtain ⟨_, hb⟩ := HM.out.get (r := cellsR w1.heap.size 37 _) ph; have hb2 : Box w3 w1.heap.size 37 (helloS c).cells := hb.2; refine (craw_any w3 _ [helloS c] (sdl_one hb2 ⟨by show I64 0; unfold I64; decide, by show ([] : List UInt8).length ≤ _; simp, by show c.m.token.length ≤ _; have := HTL.out; omega, by show ([] : List UInt8).length ≤ _; simp⟩ (by show I64 1; unfold I64; decide)) (by simp) (HTB.out.ext hE3)).mono ?_; rintro e w4 ⟨v, rfl, hU⟩; have hE4 := hE3.ext hU.keepsTo; replace HM := Hd (HM.out.newU hU); clear hU hb hb2; clear fM; have fM := HM.out.fa; go_wp2_with fail; all_goals clear fM
 refine nxt HM fun w5 M => ?_
 replace HM := M; clear M; go_ret2
 have hm2 : Mem A w w5 [bytR v (rawsX [helloS c]), clR cb { c with bytes := [], on := true, gr := false }] := Mem.sub (Mem.clClose (cb := cb) (lv := lv) (kv := kv) (wv := wv) (bv := .slice none 0 0) (c := { c with bytes := [], on := true, gr := false }) (L := [bytR v (rawsX [helloS c])]) (Mem.sub (Mem.readNil HM.out) (by repeat first | exact Sub.nil | refine Sub.cons (by with_reducible repeat first | exact ph | apply pt) ?_))) sbI; exact ⟨v, rfl, (Mem.list' (L1 := [bytR v (rawsX [helloS c]), clR cb { c with bytes := [], on := true, gr := false }]) (L := []) hm2).upd⟩
end
section
instance sba (x : Res) (A B L : List Res) [h : SbR (x :: (A ++ B)) L] : SbR ((x :: A) ++ B) L := ⟨h.out⟩
instance sbz (B L : List Res) [h : SbR B L] : SbR ([] ++ B) L := ⟨h.out⟩
attribute [local go_sem] Oper.semAt_some
def sayE (c : Cl) (t : List UInt8) : En := ⟨4, c.member, c.made + 1, t⟩
def Cl.say (c : Cl) (t : List UInt8) : Cl × List UInt8 × Int :=
 if chk t ≠ 0 then (c, [], 2) else if 64 ≤ c.waits.length ∨ 2147483647 ≤ c.made then (c, [], 3) else if c.on = false then (c, [], 380)
 else ({ c with made := c.made + 1, waits := c.waits ++ [sayE c t] }, rawsX [sayS (sayE c t)], 0)
def SayPost (A : Nat → Prop) (w : World) (cb : Nat) (c : Cl) (t : List UInt8) (e : Ending) (w' : World) : Prop := ∃ v, e = .returned (.tuple #[v, .int .i64 (c.say t).2.2]) ∧ Upd A w w' (listR [bytR v (c.say t).2.1, clR cb (c.say t).1])
theorem csay_any {A : Nat → Prop} (w : World) (cb : Nat) (c : Cl) (t : List UInt8) (hmade : 0 ≤ c.made ∧ c.made ≤ 2147483647) (hw : c.waits.length ≤ 1000) (ht : t.length ≤ 500000) (h : (clR cb c).p A w) (hX : TabX A w) :
 Calls Tryz.prog 12 #[.pointer (some ⟨cb, 0, none⟩), .string (bs t)] w (SayPost A w cb c t) := by
 unfold SayPost; by_cases e1 : chk t = 0
 case neg =>
  have HS := Hd (show c.say t = (c, [], 2) by unfold Cl.say; rw [if_pos e1]); have d1 : ((chk t : Int) != 0) = true := by simpa using e1
  clear e1; obtain ⟨lv, kv, wv, bv, hm⟩ := (Mem.start h).clOpen; obtain ⟨aw, cw, rfl⟩ := (hm.pick (r := rowR tenE wv c.waits) pk).fact fun A h => row_len h
  have HM := Hd hm; have HX := Hd hX; have HTL := Hd ht; clear hm h hX ht; go_enter Tryz.func12, Tryz.ntmps12
  go_wp2_with fail; obtain ⟨_, hb⟩ := HM.out.get (r := cellsR cb 112 (clC lv kv (.slice aw c.waits.length cw) bv c)) pk; refine (cnone_at w cb true (hb.2.reads.1 44)).mono ?_; rintro e w2 ⟨rfl, hw⟩; rw [hw]; clear hw w2 hb; have fM := HM.out.fa; go_wp2_with fail; all_goals clear fM
  refine (check_chk w w (tabs_mem HX.out HM.out) (Keeps.refl _ _) t (by have := HTL.out; omega)).mono ?_; rintro r w2 ⟨rfl, hE⟩; replace HM := Hd (HM.out.ext hE); clear hE; have fM := HM.out.fa; go_wp2_with fail; all_goals clear fM
  refine nxt HM fun w3 M => ?_
  replace HM := M; clear M; go_ret2
  refine ⟨.slice none 0 0, by rw [HS.out]; rfl, ?_⟩; rw [HS.out]; exact (Mem.list' (L1 := [bytR (.slice none 0 0) [], clR cb c]) (L := []) (Mem.sub (Mem.clClose (lv := lv) (kv := kv) (wv := .slice aw c.waits.length cw) (bv := bv) (c := c) (L := [bytR (.slice none 0 0) []]) (Mem.sub HM.out.bytNil (by repeat first | exact Sub.nil | refine Sub.cons (by with_reducible repeat first | exact ph | apply pt) ?_))) sbI)).upd
 by_cases e2 : 64 ≤ c.waits.length
 · have HS := Hd (show c.say t = (c, [], 3) by unfold Cl.say; rw [if_neg (fun h => h e1), if_pos (.inl e2)])
   have g1 : (64 : Int) ≤ (c.waits.length : Int) := by omega
   obtain ⟨lv, kv, wv, bv, hm⟩ := (Mem.start h).clOpen; obtain ⟨aw, cw, rfl⟩ := (hm.pick (r := rowR tenE wv c.waits) pk).fact fun A h => row_len h
   have HM := Hd hm; have HX := Hd hX; have HTL := Hd ht; clear hm h hX ht; go_enter Tryz.func12, Tryz.ntmps12
   go_wp2_with fail; obtain ⟨_, hb⟩ := HM.out.get (r := cellsR cb 112 (clC lv kv (.slice aw c.waits.length cw) bv c)) pk; refine (cnone_at w cb true (hb.2.reads.1 44)).mono ?_; rintro e w2 ⟨rfl, hw⟩; rw [hw]; clear hw w2 hb; have fM := HM.out.fa; go_wp2_with fail; all_goals clear fM
   refine (check_chk w w (tabs_mem HX.out HM.out) (Keeps.refl _ _) t (by have := HTL.out; omega)).mono ?_; rintro r w2 ⟨rfl, hE⟩; replace HM := Hd (HM.out.ext hE); clear hE; rw [e1]; clear e1; have fM := HM.out.fa; go_wp2_with fail; all_goals clear fM
   refine nxt HM fun w3 M => ?_
   replace HM := M; clear M; go_ret2
   refine ⟨.slice none 0 0, by rw [HS.out]; rfl, ?_⟩; rw [HS.out]; exact (Mem.list' (L1 := [bytR (.slice none 0 0) [], clR cb c]) (L := []) (Mem.sub (Mem.clClose (lv := lv) (kv := kv) (wv := .slice aw c.waits.length cw) (bv := bv) (c := c) (L := [bytR (.slice none 0 0) []]) (Mem.sub HM.out.bytNil (by repeat first | exact Sub.nil | refine Sub.cons (by with_reducible repeat first | exact ph | apply pt) ?_))) sbI)).upd
 by_cases e3 : 2147483647 ≤ c.made
 · have HS := Hd (show c.say t = (c, [], 3) by unfold Cl.say; rw [if_neg (fun h => h e1), if_pos (.inr e3)])
   have g1 : ¬ (64 : Int) ≤ (c.waits.length : Int) := by omega
   obtain ⟨lv, kv, wv, bv, hm⟩ := (Mem.start h).clOpen; obtain ⟨aw, cw, rfl⟩ := (hm.pick (r := rowR tenE wv c.waits) pk).fact fun A h => row_len h
   have HM := Hd hm; have HX := Hd hX; have HTL := Hd ht; clear hm h hX ht; go_enter Tryz.func12, Tryz.ntmps12
   go_wp2_with fail; obtain ⟨_, hb⟩ := HM.out.get (r := cellsR cb 112 (clC lv kv (.slice aw c.waits.length cw) bv c)) pk; refine (cnone_at w cb true (hb.2.reads.1 44)).mono ?_; rintro e w2 ⟨rfl, hw⟩; rw [hw]; clear hw w2 hb; have fM := HM.out.fa; go_wp2_with fail; all_goals clear fM
   refine (check_chk w w (tabs_mem HX.out HM.out) (Keeps.refl _ _) t (by have := HTL.out; omega)).mono ?_; rintro r w2 ⟨rfl, hE⟩; replace HM := Hd (HM.out.ext hE); clear hE; rw [e1]; clear e1; have fM := HM.out.fa; go_wp2_with fail; all_goals clear fM
   refine nxt HM fun w3 M => ?_
   replace HM := M; clear M; go_ret2
   refine ⟨.slice none 0 0, by rw [HS.out]; rfl, ?_⟩; rw [HS.out]; exact (Mem.list' (L1 := [bytR (.slice none 0 0) [], clR cb c]) (L := []) (Mem.sub (Mem.clClose (lv := lv) (kv := kv) (wv := .slice aw c.waits.length cw) (bv := bv) (c := c) (L := [bytR (.slice none 0 0) []]) (Mem.sub HM.out.bytNil (by repeat first | exact Sub.nil | refine Sub.cons (by with_reducible repeat first | exact ph | apply pt) ?_))) sbI)).upd
 cases e4 : c.on
 · have HS := Hd (show c.say t = (c, [], 380) by unfold Cl.say; rw [if_neg (fun h => h e1), if_neg (fun h => h.elim e2 e3), if_pos e4])
   have g1 : ¬ (64 : Int) ≤ (c.waits.length : Int) := by omega
   obtain ⟨lv, kv, wv, bv, hm⟩ := (Mem.start h).clOpen; obtain ⟨aw, cw, rfl⟩ := (hm.pick (r := rowR tenE wv c.waits) pk).fact fun A h => row_len h
   have HM := Hd hm; have HX := Hd hX; have HTL := Hd ht; clear hm h hX ht; go_enter Tryz.func12, Tryz.ntmps12
   go_wp2_with fail; obtain ⟨_, hb⟩ := HM.out.get (r := cellsR cb 112 (clC lv kv (.slice aw c.waits.length cw) bv c)) pk; refine (cnone_at w cb true (hb.2.reads.1 44)).mono ?_; rintro e w2 ⟨rfl, hw⟩; rw [hw]; clear hw w2 hb; have fM := HM.out.fa; go_wp2_with fail; all_goals clear fM
   refine (check_chk w w (tabs_mem HX.out HM.out) (Keeps.refl _ _) t (by have := HTL.out; omega)).mono ?_; rintro r w2 ⟨rfl, hE⟩; replace HM := Hd (HM.out.ext hE); clear hE; rw [e1]; clear e1; have fM := HM.out.fa; go_wp2_with fail; all_goals clear fM
   refine nxt HM fun w3 M => ?_
   replace HM := M; clear M; go_ret2
   refine ⟨.slice none 0 0, by rw [HS.out]; rfl, ?_⟩; rw [HS.out]; exact (Mem.list' (L1 := [bytR (.slice none 0 0) [], clR cb c]) (L := []) (Mem.sub (Mem.clClose (lv := lv) (kv := kv) (wv := .slice aw c.waits.length cw) (bv := bv) (c := c) (L := [bytR (.slice none 0 0) []]) (Mem.sub HM.out.bytNil (by repeat first | exact Sub.nil | refine Sub.cons (by with_reducible repeat first | exact ph | apply pt) ?_))) sbI)).upd
 have HS := Hd (show c.say t = ({ c with made := c.made + 1, waits := c.waits ++ [sayE c t] }, rawsX [sayS (sayE c t)], 0) by unfold Cl.say; rw [if_neg (fun h => h e1), if_neg (fun h => h.elim e2 e3), if_neg (by rw [e4]; simp)]); have g1 : ¬ (64 : Int) ≤ (c.waits.length : Int) := by omega
 have hwm : wrap64 (c.made + 1) = c.made + 1 := IntWalk.wrap64_in _ (by omega); have HWL := Hd hw; clear hw; obtain ⟨lv, kv, wv, bv, hm⟩ := (Mem.start h).clOpen; obtain ⟨aw, cw, rfl⟩ := (hm.pick (r := rowR tenE wv c.waits) pk).fact fun A h => row_len h
 have HM := Hd hm; have HX := Hd hX; have HTL := Hd ht; clear hm h hX ht; go_enter Tryz.func12, Tryz.ntmps12
 go_wp2_with fail; obtain ⟨_, hb⟩ := HM.out.get (r := cellsR cb 112 (clC lv kv (.slice aw c.waits.length cw) bv c)) pk; refine (cnone_at w cb true (hb.2.reads.1 44)).mono ?_; rintro e w2 ⟨rfl, hw⟩; rw [hw]; clear hw w2 hb; have fM := HM.out.fa; go_wp2_with fail; all_goals clear fM
 refine (check_chk w w (tabs_mem HX.out HM.out) (Keeps.refl _ _) t (by have := HTL.out; omega)).mono ?_; rintro r w2 ⟨rfl, hE⟩; replace HM := Hd (HM.out.ext hE); clear hE; rw [e1]; clear e1; have fM := HM.out.fa; go_wp2_with fail; all_goals clear fM
 refine nxt HM fun w3 M => ?_
 replace HM := M; clear M; obtain ⟨c1, hc1⟩ : ∃ d, ({ c with made := c.made + 1 } : Cl) = d := ⟨_, rfl⟩; have hm : Mem A w w3 [cellsR cb 112 (clC lv kv (.slice aw c.waits.length cw) bv { c with made := c.made + 1 }), linR lv kv c.m.lines c.k.lines, rowR tenE (.slice aw c.waits.length cw) c.waits, readR bv c.bytes] := HM.out; replace HM := Hd hm; clear hm hwm; have fM := HM.out.fa; have hE0 : Keeps NoB w3 w3.drew := (Keeps.refl _ _).drew; refine rgE [(0, 0), (0, 1), (0, 2), (1, 3), (0, 4), (0, 5), (0, 6), (1, 7), (0, 8), (0, 9), (2, 10)] [3, 7] [10, 11] [11] ?_; simp only [planL, nL]; iterate 10 (first | (refine pM _ rfl rfl ?_; simp only [nP, nE]) | (refine pR (by rfl) (fun W => by go_simp <;> with_reducible rfl) ?_; simp only [nP]) | (refine pL (by rfl) (fun W => by go_simp <;> with_reducible rfl) ?_; simp only [nP]))
 refine plan_does rfl (fun K hK => ?_); go_wp2_with fail; refine ⟨ClsE.of (by repeat (first | assumption | exact Keeps.refl _ _ | refine Keeps.alloc ?_ _ | refine Keeps.setOne ?_ _ _ | refine Keeps.setCell ?_ _ _ (.inl (by first | rfl | exact .inl rfl | exact .inr rfl | omega)) | refine Keeps.drew ?_)), ?_⟩; try simp only [nP]
 refine plan_nil ?_; simp only [tailL, List.filterMap_cons, List.filterMap_nil, nL]; change wpList _ _ _ (_ :: []) _ _; clear fM; have fM := HM.out.fa; go_wp2_with fail; all_goals clear fM
 obtain ⟨ke, hke⟩ : ∃ k, w3.heap.size = k := ⟨_, rfl⟩; refine nxt HM fun w4 M => ?_
 replace HM := M; clear M; rw [hke] at HM ⊢; clear hke hc1 c1; have fM := HM.out.fa; have hE0 : Keeps NoB w4 w4.drew := (Keeps.refl _ _).drew; refine rgE [(0, 0), (0, 1), (0, 2), (0, 3), (1, 4), (3, 5), (2, 6)] [4] [6, 7, 8, 9, 10] [7, 8, 9, 10] ?_; simp only [planL, nL]; iterate 2 (refine pM _ rfl rfl ?_; simp only [nP, nE])
 iterate 2 (refine pR rfl (fun W => by go_simp <;> with_reducible rfl) ?_; simp only [nP])
 refine pL rfl (fun W => by go_simp <;> with_reducible rfl) ?_; simp only [nP]; refine pX rfl (by go_simp <;> with_reducible rfl) ?_; simp only [nP]; refine plan_does rfl (fun K hK => ?_); go_wp2_with fail; refine ⟨ClsE.of (by repeat (first | assumption | exact Keeps.refl _ _ | refine Keeps.alloc ?_ _ | refine Keeps.setOne ?_ _ _ | refine Keeps.setCell ?_ _ _ (.inl (by first | rfl | exact .inl rfl | exact .inr rfl | omega)) | refine Keeps.drew ?_)), ?_⟩; try simp only [nP]
 refine plan_nil ?_; simp only [tailL, List.filterMap_cons, List.filterMap_nil, nL]; change wpList _ _ _ (_ :: _ :: _ :: _ :: []) _ _; clear fM; go_wp2_with (at_builtin; refine standing ?_); refine nxt HM fun w5 M => ?_
 replace HM := M; clear M; obtain ⟨_, hb⟩ := HM.out.get (r := cellsR w4.heap.size 35 _) (by with_reducible repeat first | exact ph | apply pt); have hb2 : Box w5 w4.heap.size 35 (sayE c t).cells := hb.2; obtain ⟨v6, w6, hr, hm6⟩ := add_ten 39 (HM.out.pick (r := rowR tenE (.slice aw c.waits.length cw) c.waits) pk) _ 1 (sayE c t) hb2.reads.1 (by have := HWL.out; omega); obtain ⟨wt, hwt⟩ : ∃ l, c.waits ++ [sayE c t] = l := ⟨_, rfl⟩; have HWT := Hd hwt; rw [hwt] at hm6; obtain ⟨a6, c6, rfl⟩ := hm6.fact (fun A h => row_len h); replace HM := Hd hm6; refine ⟨?_⟩; refine wpList_append_ran rfl _ _ hr rfl rfl rfl ?_; clear hr hm6 hb hb2 hwt; have fM := HM.out.fa; go_wp2_with fail; all_goals clear fM
 refine nxt HM fun w7 M => ?_
 replace HM := M; clear M; have hm : Mem A w w7 [cellsR cb 112 (clC lv kv (.slice a6 wt.length c6) bv { c with made := c.made + 1, waits := wt }), rowR tenE (.slice a6 wt.length c6) wt, cellsR w4.heap.size 35 (sayE c t).cells, cellsR ke 35 (sayE c t).cells, linR lv kv c.m.lines c.k.lines, readR bv c.bytes] := HM.out; replace HM := Hd hm; clear hm; refine (csaying_any w7 (sayE c t)).mono ?_; rintro r w8 ⟨rfl, hE⟩; replace HM := Hd (HM.out.ext hE); clear hE; unfold Sd.v Sd.cells; have fM := HM.out.fa; go_wp2_with fail; all_goals clear fM
 refine nxt HM fun w9 M => ?_
 replace HM := M; clear M; obtain ⟨_, hb⟩ := HM.out.get (r := cellsR w8.heap.size 37 _) (by with_reducible repeat first | exact ph | apply pt); have hb2 : Box w9 w8.heap.size 37 (sayS (sayE c t)).cells := hb.2; refine (craw_any w9 _ [sayS (sayE c t)] (sdl_one hb2 ⟨by show I64 0; unfold I64; decide, by show t.length ≤ _; have := HTL.out; omega, by show ([] : List UInt8).length ≤ _; simp, by show ([] : List UInt8).length ≤ _; simp⟩ (by show I64 4; unfold I64; decide)) (by simp) (tabs_mem HX.out HM.out)).mono ?_; rintro r w10 ⟨v, rfl, hU⟩; replace HM := Hd (HM.out.newU hU); clear hU hb hb2; have fM := HM.out.fa; go_wp2_with fail; all_goals clear fM
 refine nxt HM fun w11 M => ?_
 replace HM := M; clear M; go_ret2
 refine ⟨v, by rw [HS.out]; rfl, ?_⟩; rw [HS.out, HWT.out]; have h1 := Mem.clClose (cb := cb) (lv := lv) (kv := kv) (wv := .slice a6 wt.length c6) (bv := bv) (c := { c with made := c.made + 1, waits := wt }) (L := [bytR v (rawsX [sayS (sayE c t)])]) (Mem.sub HM.out sbI); exact (Mem.list' (L1 := [bytR v (rawsX [sayS (sayE c t)]), clR cb { c with made := c.made + 1, waits := wt }]) (L := []) (Mem.sub h1 sbI)).upd
end
end Go.Proofs.YtoadjbgpfihoiaaGreatDoor
