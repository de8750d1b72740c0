/- RulesSessions: a round of its loop at any number; the loop at any list. -/
import Derived.Test.YtogdmfknfkcjdaaGreatRsA
import Derived.IntWalk
namespace Go.Proofs.YtogdmfknfkcjdaaGreat.Rs
open Go Go.Eng Go.RowKit

theorem callX_ok [SymV] [SymT] : CallSound Tryz.prog callX := fun g args m v m' h hw => by
  unfold callX at h
  rw [callFF_eq] at h
  exact call_sound pok (noPrim _) 100000 60 g args m v m' h hw

theorem stL_ok (b : Nat → Bool) : (6 : Nat) ≤ 16384 ∧ ∀ p ∈ stL b, p.1 < 6 ∧ ubB p.2 ≤ 6 := by
  refine ⟨by decide, fun p hp => ?_⟩
  simp only [stL, List.mem_cons, List.not_mem_nil, or_false] at hp
  rcases hp with rfl | rfl | rfl | rfl | rfl | rfl
  all_goals exact ⟨blt_lt rfl, Nat.le_of_ble_eq_true (by rfl)⟩
theorem stL_mem (b : Nat → Bool) : memOK 6 (stL b) = true := by kernel_rfl
theorem stL_sym (b : Nat → Bool) : (stL b).all (fun q => okSB (fun _ => false) q.2) = true := by kernel_rfl
def rho6 : List (Nat × Nat) := [(0, 0), (1, 1), (2, 2), (3, 3), (4, 4), (5, 5)]

theorem upd_same {b : Nat → Bool} {j : Nat} {v : Bool} (h : b j = v) : upd b j v = b := by
  funext i
  unfold upd
  cases hb : Nat.beq i j with
  | false => rfl
  | true =>
    have := Nat.eq_of_beq_eq_true hb
    subst this
    exact h.symm

def valR (i L x : Int) (V p : Value) : Nat → Value
  | 1 => .int .i64 i
  | 2 => .int .i64 L
  | 3 => .int .i64 (i + 1)
  | 5 => .int .i64 x
  | 6 => .int .i64 (IntKind.i64.wrap (0 - x))
  | 7 => V
  | 8 => p
  | _ => .int .i64 0

theorem hiR {i L x : Int} {V p : Value} (hV : isOneV V = true) (hp : isOneV p = true) : ∀ n, isOneV (valR i L x V p n) = true := by
  intro n
  unfold valR
  split <;> first | rfl | exact hV | exact hp

def slV (blk off n cap : Nat) : Value := .slice (some ⟨blk, off, none⟩) n cap
def ptV (blk off : Nat) : Value := .pointer (some ⟨blk, off, none⟩)
def liveR2 : List (Nat × Value) := [(5, pt 1), (7, pt 4), (1, sv 7), (9, sv 3)]

theorem symV [S : SymV] {φ : Phi} {n : Nat} {y : Value} (h : VR φ (sv n) y) : y = SymV.val n := by
  cases h with
  | sym _ _ _ _ hv => exact hv

theorem roundOf {W w : World} {a : Act} {φ : Phi} {blk off n cap : Nat} {c : Array Value} {e : TypeId} {fz : Nat × Nat} {i : Nat} {x : Int} {b b' : Nat → Bool} {cell : Value} {tab : List SRule}
    (hblk : W.heap[blk]? = some (.cells c e fz)) (hcap : n ≤ cap) (hx : c[off + i]? = some (.int .i64 x)) (hcell : cell = .int .i64 x ∨ cell = sv 5)
    (htab : ∀ q ∈ tab, q.good (valR i n x (slV blk off n cap) (ptV blk (off + i)))) (run : RunAt cell tab b b')
    (hst : @St noSymV W.heap.size 6 (stL b) φ w) (hφ : φ 0 = some none) (hf : @FL noSymV liveS 96 φ a) (h1 : a.tmps.getD 1 undef = slV blk off n cap) (h9 : a.tmps.getD 9 undef = .int .i64 (i : Int)) (hbel : Below W.heap.size W w)
    {Q : Exit → Act → World → Prop} (hQ : ∀ ψ w' a', @St noSymV W.heap.size 6 (stL b') ψ w' → ψ 0 = some none → @FL noSymV liveS 96 ψ a' → a'.tmps.getD 1 undef = slV blk off n cap → a'.tmps.getD 9 undef = .int .i64 ((i : Int) + 1) → a'.defers = a.defers → Below W.heap.size W w' → Q .normal a' w') :
    wpL Tryz.prog Q (flat B3) a w := by
  have hiV : ∀ m, isOneV (valR i n x (slV blk off n cap) (ptV blk (off + i)) m) = true := hiR (Nat.ble_eq_true_of_le hcap) rfl
  have hptr : ∀ m cs, ptrC cell m = some cs → ∃ off', valR i n x (slV blk off n cap) (ptV blk (off + i)) m = .pointer (some ⟨blk, off', none⟩) ∧ off' + cs.length ≤ c.size ∧ ∀ (k : Nat) (v : Value), cs[k]? = some v → isScR v = true ∧ c[off' + k]? = some (den (valR i n x (slV blk off n cap) (ptV blk (off + i))) v) := by
    intro m cs hm
    unfold ptrC at hm
    cases hb : Nat.beq m 8 with
    | false => rw [hb] at hm; cases hm
    | true =>
      rw [hb] at hm
      cases hm
      have := Nat.eq_of_beq_eq_true hb
      subst this
      have hlt := (Array.getElem?_eq_some_iff.1 hx).1
      refine ⟨off + i, rfl, by show off + i + 1 ≤ c.size; omega, fun k v hk => ?_⟩
      cases k with
      | succ k => simp at hk
      | zero =>
        simp only [List.getElem?_cons_zero, Option.some.injEq] at hk
        subst hk
        rcases hcell with rfl | rfl
        · exact ⟨rfl, hx⟩
        · exact ⟨rfl, hx⟩
  have hlt : blk < W.heap.size := (Array.getElem?_eq_some_iff.1 hblk).1
  have hfrom := hst.from_
  obtain ⟨fsz, fnt, fval, fany⟩ := hf
  letI S : SymV := .pinned (valR i n x (slV blk off n cap) (ptV blk (off + i))) hiV blk c e fz (ptrC cell) hptr
  letI TT : SymT := ⟨tab, htab⟩
  have hpin : @Pin S φ w := ⟨(hbel.block blk hlt).trans hblk, fun b0 hb0 id l hl he => by
    have h1 := hfrom id l hl
    have h2 : b0 = blk := hb0
    omega⟩
  have hst' : @St S W.heap.size 6 (stL b) φ w := St.inst (S1 := noSymV) (S2 := S) (p := fun _ => false) (fun _ h => by cases h) (stL_mem b) (stL_sym b) hst hpin
  have hF : @FL S liveR 96 φ a := by
    refine ⟨fsz, fnt, fun p hp => ?_, fany⟩
    simp only [liveR, List.mem_cons, List.not_mem_nil, or_false] at hp
    rcases hp with rfl | rfl | rfl | rfl
    · exact VR.inst (S1 := noSymV) (S2 := S) (p := fun _ => false) (fun _ h => by cases h) 7 _ _ rfl (fval (5, pt 1) (by simp [liveS]))
    · exact VR.inst (S1 := noSymV) (S2 := S) (p := fun _ => false) (fun _ h => by cases h) 7 _ _ rfl (fval (7, pt 4) (by simp [liveS]))
    · exact .sym _ _ _ _ h1
    · exact .sym _ _ _ _ h9
  refine code_runE pok callX_ok (l' := stL b') (ρ := rho6) (live' := liveR2) (lx := .norm) (is := [1, 2, 4]) (ts := [5, 7, 1, 9]) (bs := [some (.cells [pt 2]), some (stR b'), some (stQ b')]) (vs := [pt 1, pt 4, sv 7, sv 3])
    (stL_ok b) rfl rfl (fun u => run _ hiV blk c e fz hptr htab u) (by decide) rfl (fun p hp => ((stL_ok b').2 p hp).1) (fun p hp => ?_) (fun p hp => ?_) hst' hφ hF fun ψ w' a' hst2 hψ hf2 hbel2 hd _ => ?_
  · simp only [rho6, List.mem_cons, List.not_mem_nil, or_false] at hp
    rcases hp with rfl | rfl | rfl | rfl | rfl | rfl
    · exact ⟨.dead, rfl, .inl rfl⟩
    · exact ⟨_, rfl, .inr ⟨0, _, rfl, rfl, rfl⟩⟩
    · exact ⟨_, rfl, .inr ⟨1, _, rfl, rfl, rfl⟩⟩
    · exact ⟨.dead, rfl, .inl rfl⟩
    · exact ⟨_, rfl, .inr ⟨2, _, rfl, rfl, rfl⟩⟩
    · exact ⟨.dead, rfl, .inl rfl⟩
  · simp only [liveR2, List.mem_cons, List.not_mem_nil, or_false] at hp
    rcases hp with rfl | rfl | rfl | rfl
    · exact ⟨0, _, rfl, rfl, rfl⟩
    · exact ⟨1, _, rfl, rfl, rfl⟩
    · exact ⟨2, _, rfl, rfl, rfl⟩
    · exact ⟨3, _, rfl, rfl, rfl⟩
  · have v1 := symV (hf2.val (1, sv 7) (by simp [liveR2]))
    have v9 := symV (hf2.val (9, sv 3) (by simp [liveR2]))
    refine hQ ψ w' a' (St.inst (S1 := S) (S2 := noSymV) (p := fun _ => false) (fun _ h => by cases h) (stL_mem b') (stL_sym b') hst2 (@Pin.none noSymV ψ w' ⟨fun _ => trivial, fun _ h => h⟩)) hψ (@FL.mk noSymV _ _ _ _ hf2.size hf2.nt (fun p hp => ?_) hf2.any) v1 v9 hd (hbel.trans hbel2)
    simp only [liveS, List.mem_cons, List.not_mem_nil, or_false] at hp
    rcases hp with rfl | rfl
    · exact VR.inst (S1 := S) (S2 := noSymV) (p := fun _ => false) (fun _ h => by cases h) 7 _ _ rfl (hf2.val (5, pt 1) (by simp [liveR2]))
    · exact VR.inst (S1 := S) (S2 := noSymV) (p := fun _ => false) (fun _ h => by cases h) 7 _ _ rfl (hf2.val (7, pt 4) (by simp [liveR2]))

theorem goodOp {val : Nat → Value} {op : BinOp} {x y r : Value} {k : IntKind} {a b c : Int} (hx : isSc x = true) (hy : isSc y = true) (dx : den val x = .int k a) (dy : den val y = .int k b) (dr : isScR r = true ∧ den val r = .int k c)
    (h : ∀ t, pureSem (binOp op t (.int k a) (.int k b)) = some (.int k c)) : (SRule.bin op x y r).good val :=
  ⟨numD hx dx, numD hy dy, dr.1, fun t => by rw [dx, dy, dr.2]; exact h t⟩

theorem tabC_ok {blk off n cap i : Nat} {x : Int} (hi : i < n) (hn : n ≤ 12) : ∀ q ∈ tabC, q.good (valR i n x (slV blk off n cap) (ptV blk (off + i))) := by
  refine List.forall_mem_cons.2 ⟨⟨rfl, fun _ => ⟨_, _, _, rfl, rfl⟩, fun h => by cases h⟩, List.forall_mem_cons.2 ⟨goodC (k := .i64) (a := i) (b := n) rfl rfl rfl rfl rfl (decide_eq_true (by omega)), List.forall_mem_cons.2 ⟨⟨rfl, _, _, _, .i64, (i : Int), rfl, rfl, by omega, by omega, ?_⟩,
    List.forall_mem_cons.2 ⟨goodOp (k := .i64) (a := i) (b := 1) (c := (i : Int) + 1) rfl rfl rfl rfl ⟨rfl, rfl⟩ fun t => ?_, List.forall_mem_nil _⟩⟩⟩⟩
  · show Value.pointer (some ⟨blk, off + i, none⟩) = .pointer (some (Addr.add ⟨blk, off, none⟩ (((i : Int)).toNat * 1)))
    rw [addr_add, Int.toNat_natCast, Nat.mul_one]
  · show some (Value.int .i64 (IntKind.i64.wrap ((i : Int) + 1))) = _
    rw [IntWalk.i64_in ((i : Int) + 1) ⟨by omega, by omega⟩]

theorem round {W w : World} {a : Act} {φ : Phi} {blk off n cap : Nat} {c : Array Value} {e : TypeId} {fz : Nat × Nat} {i : Nat} {x : Int} {b : Nat → Bool}
    (hblk : W.heap[blk]? = some (.cells c e fz)) (hcap : n ≤ cap) (hi : i < n) (hn : n ≤ 12) (hx : c[off + i]? = some (.int .i64 x)) (hr : -9223372036854775808 ≤ x ∧ x ≤ 9223372036854775807)
    (hst : @St noSymV W.heap.size 6 (stL b) φ w) (hφ : φ 0 = some none) (hf : @FL noSymV liveS 96 φ a) (h1 : a.tmps.getD 1 undef = slV blk off n cap) (h9 : a.tmps.getD 9 undef = .int .i64 (i : Int)) (hbel : Below W.heap.size W w)
    {Q : Exit → Act → World → Prop} (hQ : ∀ b' ψ w' a', @St noSymV W.heap.size 6 (stL b') ψ w' → ψ 0 = some none → @FL noSymV liveS 96 ψ a' → a'.tmps.getD 1 undef = slV blk off n cap → a'.tmps.getD 9 undef = .int .i64 ((i : Int) + 1) → a'.defers = a.defers → Below W.heap.size W w' → Q .normal a' w') :
    wpL Tryz.prog Q (flat B3) a w := by
  have tC := tabC_ok (blk := blk) (off := off) (cap := cap) (x := x) hi hn
  have cm : ∀ (op : BinOp) (m : Nat) (v k : Int) (r : Bool), isCmp op = true → valR i n x (slV blk off n cap) (ptV blk (off + i)) m = .int .i64 v → cmpB op v k = r → (SRule.bin op (sv m) (.int .i64 k) (.bool r)).good (valR i n x (slV blk off n cap) (ptV blk (off + i))) := fun op m v k r h1 h2 h3 => goodC (k := .i64) (a := v) (b := k) h1 rfl rfl h2 rfl h3
  by_cases c1 : 17 ≤ x
  · exact roundOf hblk hcap hx (.inr rfl) (tab := tabHi) (List.forall_mem_cons.2 ⟨cm .lss 5 x 0 false rfl rfl (decide_eq_false (by omega)), List.forall_mem_cons.2 ⟨cm .lss 5 x 1 false rfl rfl (decide_eq_false (by omega)), List.forall_mem_cons.2 ⟨cm .gtr 5 x 16 true rfl rfl (decide_eq_true (by omega)), tC⟩⟩⟩) (Rs.hi b) hst hφ hf h1 h9 hbel (hQ b)
  by_cases c2 : x ≤ -100
  · exact roundOf hblk hcap hx (.inr rfl) (tab := tabLo) (List.forall_mem_cons.2 ⟨cm .lss 5 x 0 true rfl rfl (decide_eq_true (by omega)), List.forall_mem_cons.2 ⟨cm .gtr 5 x (.negSucc 99) false rfl rfl (show decide ((-100 : Int) < x) = false from decide_eq_false (by omega)), List.forall_mem_cons.2 ⟨cm .lss 5 x 1 true rfl rfl (decide_eq_true (by omega)), tC⟩⟩⟩) (lo b) hst hφ hf h1 h9 hbel (hQ b)
  by_cases c3 : x ≤ -17
  · have hw : IntKind.i64.wrap (0 - x) = 0 - x := IntWalk.i64_in (0 - x) ⟨by omega, by omega⟩
    exact roundOf hblk hcap hx (.inr rfl) (tab := tabMid) (List.forall_mem_cons.2 ⟨cm .lss 5 x 0 true rfl rfl (decide_eq_true (by omega)), List.forall_mem_cons.2 ⟨cm .gtr 5 x (.negSucc 99) true rfl rfl (show decide ((-100 : Int) < x) = true from decide_eq_true (by omega)), List.forall_mem_cons.2 ⟨goodNeg (k := .i64) (a := x) rfl rfl,
      List.forall_mem_cons.2 ⟨cm .gtr 6 _ 0 true rfl rfl (by rw [hw]; exact decide_eq_true (by omega)), List.forall_mem_cons.2 ⟨cm .leq 6 _ 16 false rfl rfl (by rw [hw]; exact decide_eq_false (by omega)), List.forall_mem_cons.2 ⟨cm .geq 6 _ 1 true rfl rfl (by rw [hw]; exact decide_eq_true (by omega)), tC⟩⟩⟩⟩⟩⟩) (mid b) hst hφ hf h1 h9 hbel (hQ b)
  by_cases e0 : x = (-16)
  · subst e0
    cases hb : b 16 with
    | true =>
      rw [← upd_same hb] at hst
      exact roundOf hblk hcap hx (.inl rfl) tC (cl16_true b) hst hφ hf h1 h9 hbel (hQ (upd b 16 false))
    | false =>
      rw [← upd_same hb] at hst
      exact roundOf hblk hcap hx (.inl rfl) tC (cl16_false b) hst hφ hf h1 h9 hbel (hQ (upd b 16 false))
  by_cases e1 : x = (-15)
  · subst e1
    cases hb : b 15 with
    | true =>
      rw [← upd_same hb] at hst
      exact roundOf hblk hcap hx (.inl rfl) tC (cl15_true b) hst hφ hf h1 h9 hbel (hQ (upd b 15 false))
    | false =>
      rw [← upd_same hb] at hst
      exact roundOf hblk hcap hx (.inl rfl) tC (cl15_false b) hst hφ hf h1 h9 hbel (hQ (upd b 15 false))
  by_cases e2 : x = (-14)
  · subst e2
    cases hb : b 14 with
    | true =>
      rw [← upd_same hb] at hst
      exact roundOf hblk hcap hx (.inl rfl) tC (cl14_true b) hst hφ hf h1 h9 hbel (hQ (upd b 14 false))
    | false =>
      rw [← upd_same hb] at hst
      exact roundOf hblk hcap hx (.inl rfl) tC (cl14_false b) hst hφ hf h1 h9 hbel (hQ (upd b 14 false))
  by_cases e3 : x = (-13)
  · subst e3
    cases hb : b 13 with
    | true =>
      rw [← upd_same hb] at hst
      exact roundOf hblk hcap hx (.inl rfl) tC (cl13_true b) hst hφ hf h1 h9 hbel (hQ (upd b 13 false))
    | false =>
      rw [← upd_same hb] at hst
      exact roundOf hblk hcap hx (.inl rfl) tC (cl13_false b) hst hφ hf h1 h9 hbel (hQ (upd b 13 false))
  by_cases e4 : x = (-12)
  · subst e4
    cases hb : b 12 with
    | true =>
      rw [← upd_same hb] at hst
      exact roundOf hblk hcap hx (.inl rfl) tC (cl12_true b) hst hφ hf h1 h9 hbel (hQ (upd b 12 false))
    | false =>
      rw [← upd_same hb] at hst
      exact roundOf hblk hcap hx (.inl rfl) tC (cl12_false b) hst hφ hf h1 h9 hbel (hQ (upd b 12 false))
  by_cases e5 : x = (-11)
  · subst e5
    cases hb : b 11 with
    | true =>
      rw [← upd_same hb] at hst
      exact roundOf hblk hcap hx (.inl rfl) tC (cl11_true b) hst hφ hf h1 h9 hbel (hQ (upd b 11 false))
    | false =>
      rw [← upd_same hb] at hst
      exact roundOf hblk hcap hx (.inl rfl) tC (cl11_false b) hst hφ hf h1 h9 hbel (hQ (upd b 11 false))
  by_cases e6 : x = (-10)
  · subst e6
    cases hb : b 10 with
    | true =>
      rw [← upd_same hb] at hst
      exact roundOf hblk hcap hx (.inl rfl) tC (cl10_true b) hst hφ hf h1 h9 hbel (hQ (upd b 10 false))
    | false =>
      rw [← upd_same hb] at hst
      exact roundOf hblk hcap hx (.inl rfl) tC (cl10_false b) hst hφ hf h1 h9 hbel (hQ (upd b 10 false))
  by_cases e7 : x = (-9)
  · subst e7
    cases hb : b 9 with
    | true =>
      rw [← upd_same hb] at hst
      exact roundOf hblk hcap hx (.inl rfl) tC (cl9_true b) hst hφ hf h1 h9 hbel (hQ (upd b 9 false))
    | false =>
      rw [← upd_same hb] at hst
      exact roundOf hblk hcap hx (.inl rfl) tC (cl9_false b) hst hφ hf h1 h9 hbel (hQ (upd b 9 false))
  by_cases e8 : x = (-8)
  · subst e8
    cases hb : b 8 with
    | true =>
      rw [← upd_same hb] at hst
      exact roundOf hblk hcap hx (.inl rfl) tC (cl8_true b) hst hφ hf h1 h9 hbel (hQ (upd b 8 false))
    | false =>
      rw [← upd_same hb] at hst
      exact roundOf hblk hcap hx (.inl rfl) tC (cl8_false b) hst hφ hf h1 h9 hbel (hQ (upd b 8 false))
  by_cases e9 : x = (-7)
  · subst e9
    cases hb : b 7 with
    | true =>
      rw [← upd_same hb] at hst
      exact roundOf hblk hcap hx (.inl rfl) tC (cl7_true b) hst hφ hf h1 h9 hbel (hQ (upd b 7 false))
    | false =>
      rw [← upd_same hb] at hst
      exact roundOf hblk hcap hx (.inl rfl) tC (cl7_false b) hst hφ hf h1 h9 hbel (hQ (upd b 7 false))
  by_cases e10 : x = (-6)
  · subst e10
    cases hb : b 6 with
    | true =>
      rw [← upd_same hb] at hst
      exact roundOf hblk hcap hx (.inl rfl) tC (cl6_true b) hst hφ hf h1 h9 hbel (hQ (upd b 6 false))
    | false =>
      rw [← upd_same hb] at hst
      exact roundOf hblk hcap hx (.inl rfl) tC (cl6_false b) hst hφ hf h1 h9 hbel (hQ (upd b 6 false))
  by_cases e11 : x = (-5)
  · subst e11
    cases hb : b 5 with
    | true =>
      rw [← upd_same hb] at hst
      exact roundOf hblk hcap hx (.inl rfl) tC (cl5_true b) hst hφ hf h1 h9 hbel (hQ (upd b 5 false))
    | false =>
      rw [← upd_same hb] at hst
      exact roundOf hblk hcap hx (.inl rfl) tC (cl5_false b) hst hφ hf h1 h9 hbel (hQ (upd b 5 false))
  by_cases e12 : x = (-4)
  · subst e12
    cases hb : b 4 with
    | true =>
      rw [← upd_same hb] at hst
      exact roundOf hblk hcap hx (.inl rfl) tC (cl4_true b) hst hφ hf h1 h9 hbel (hQ (upd b 4 false))
    | false =>
      rw [← upd_same hb] at hst
      exact roundOf hblk hcap hx (.inl rfl) tC (cl4_false b) hst hφ hf h1 h9 hbel (hQ (upd b 4 false))
  by_cases e13 : x = (-3)
  · subst e13
    cases hb : b 3 with
    | true =>
      rw [← upd_same hb] at hst
      exact roundOf hblk hcap hx (.inl rfl) tC (cl3_true b) hst hφ hf h1 h9 hbel (hQ (upd b 3 false))
    | false =>
      rw [← upd_same hb] at hst
      exact roundOf hblk hcap hx (.inl rfl) tC (cl3_false b) hst hφ hf h1 h9 hbel (hQ (upd b 3 false))
  by_cases e14 : x = (-2)
  · subst e14
    cases hb : b 2 with
    | true =>
      rw [← upd_same hb] at hst
      exact roundOf hblk hcap hx (.inl rfl) tC (cl2_true b) hst hφ hf h1 h9 hbel (hQ (upd b 2 false))
    | false =>
      rw [← upd_same hb] at hst
      exact roundOf hblk hcap hx (.inl rfl) tC (cl2_false b) hst hφ hf h1 h9 hbel (hQ (upd b 2 false))
  by_cases e15 : x = (-1)
  · subst e15
    cases hb : b 1 with
    | true =>
      rw [← upd_same hb] at hst
      exact roundOf hblk hcap hx (.inl rfl) tC (cl1_true b) hst hφ hf h1 h9 hbel (hQ (upd b 1 false))
    | false =>
      rw [← upd_same hb] at hst
      exact roundOf hblk hcap hx (.inl rfl) tC (cl1_false b) hst hφ hf h1 h9 hbel (hQ (upd b 1 false))
  by_cases e16 : x = 0
  · subst e16
    exact roundOf hblk hcap hx (.inl rfl) tC (zero b) hst hφ hf h1 h9 hbel (hQ b)
  by_cases e17 : x = 1
  · subst e17
    cases hb : b 1 with
    | true =>
      rw [← upd_same hb] at hst
      exact roundOf hblk hcap hx (.inl rfl) tC (op1_true b) hst hφ hf h1 h9 hbel (hQ (upd b 1 true))
    | false =>
      rw [← upd_same hb] at hst
      exact roundOf hblk hcap hx (.inl rfl) tC (op1_false b) hst hφ hf h1 h9 hbel (hQ (upd b 1 true))
  by_cases e18 : x = 2
  · subst e18
    cases hb : b 2 with
    | true =>
      rw [← upd_same hb] at hst
      exact roundOf hblk hcap hx (.inl rfl) tC (op2_true b) hst hφ hf h1 h9 hbel (hQ (upd b 2 true))
    | false =>
      rw [← upd_same hb] at hst
      exact roundOf hblk hcap hx (.inl rfl) tC (op2_false b) hst hφ hf h1 h9 hbel (hQ (upd b 2 true))
  by_cases e19 : x = 3
  · subst e19
    cases hb : b 3 with
    | true =>
      rw [← upd_same hb] at hst
      exact roundOf hblk hcap hx (.inl rfl) tC (op3_true b) hst hφ hf h1 h9 hbel (hQ (upd b 3 true))
    | false =>
      rw [← upd_same hb] at hst
      exact roundOf hblk hcap hx (.inl rfl) tC (op3_false b) hst hφ hf h1 h9 hbel (hQ (upd b 3 true))
  by_cases e20 : x = 4
  · subst e20
    cases hb : b 4 with
    | true =>
      rw [← upd_same hb] at hst
      exact roundOf hblk hcap hx (.inl rfl) tC (op4_true b) hst hφ hf h1 h9 hbel (hQ (upd b 4 true))
    | false =>
      rw [← upd_same hb] at hst
      exact roundOf hblk hcap hx (.inl rfl) tC (op4_false b) hst hφ hf h1 h9 hbel (hQ (upd b 4 true))
  by_cases e21 : x = 5
  · subst e21
    cases hb : b 5 with
    | true =>
      rw [← upd_same hb] at hst
      exact roundOf hblk hcap hx (.inl rfl) tC (op5_true b) hst hφ hf h1 h9 hbel (hQ (upd b 5 true))
    | false =>
      rw [← upd_same hb] at hst
      exact roundOf hblk hcap hx (.inl rfl) tC (op5_false b) hst hφ hf h1 h9 hbel (hQ (upd b 5 true))
  by_cases e22 : x = 6
  · subst e22
    cases hb : b 6 with
    | true =>
      rw [← upd_same hb] at hst
      exact roundOf hblk hcap hx (.inl rfl) tC (op6_true b) hst hφ hf h1 h9 hbel (hQ (upd b 6 true))
    | false =>
      rw [← upd_same hb] at hst
      exact roundOf hblk hcap hx (.inl rfl) tC (op6_false b) hst hφ hf h1 h9 hbel (hQ (upd b 6 true))
  by_cases e23 : x = 7
  · subst e23
    cases hb : b 7 with
    | true =>
      rw [← upd_same hb] at hst
      exact roundOf hblk hcap hx (.inl rfl) tC (op7_true b) hst hφ hf h1 h9 hbel (hQ (upd b 7 true))
    | false =>
      rw [← upd_same hb] at hst
      exact roundOf hblk hcap hx (.inl rfl) tC (op7_false b) hst hφ hf h1 h9 hbel (hQ (upd b 7 true))
  by_cases e24 : x = 8
  · subst e24
    cases hb : b 8 with
    | true =>
      rw [← upd_same hb] at hst
      exact roundOf hblk hcap hx (.inl rfl) tC (op8_true b) hst hφ hf h1 h9 hbel (hQ (upd b 8 true))
    | false =>
      rw [← upd_same hb] at hst
      exact roundOf hblk hcap hx (.inl rfl) tC (op8_false b) hst hφ hf h1 h9 hbel (hQ (upd b 8 true))
  by_cases e25 : x = 9
  · subst e25
    cases hb : b 9 with
    | true =>
      rw [← upd_same hb] at hst
      exact roundOf hblk hcap hx (.inl rfl) tC (op9_true b) hst hφ hf h1 h9 hbel (hQ (upd b 9 true))
    | false =>
      rw [← upd_same hb] at hst
      exact roundOf hblk hcap hx (.inl rfl) tC (op9_false b) hst hφ hf h1 h9 hbel (hQ (upd b 9 true))
  by_cases e26 : x = 10
  · subst e26
    cases hb : b 10 with
    | true =>
      rw [← upd_same hb] at hst
      exact roundOf hblk hcap hx (.inl rfl) tC (op10_true b) hst hφ hf h1 h9 hbel (hQ (upd b 10 true))
    | false =>
      rw [← upd_same hb] at hst
      exact roundOf hblk hcap hx (.inl rfl) tC (op10_false b) hst hφ hf h1 h9 hbel (hQ (upd b 10 true))
  by_cases e27 : x = 11
  · subst e27
    cases hb : b 11 with
    | true =>
      rw [← upd_same hb] at hst
      exact roundOf hblk hcap hx (.inl rfl) tC (op11_true b) hst hφ hf h1 h9 hbel (hQ (upd b 11 true))
    | false =>
      rw [← upd_same hb] at hst
      exact roundOf hblk hcap hx (.inl rfl) tC (op11_false b) hst hφ hf h1 h9 hbel (hQ (upd b 11 true))
  by_cases e28 : x = 12
  · subst e28
    cases hb : b 12 with
    | true =>
      rw [← upd_same hb] at hst
      exact roundOf hblk hcap hx (.inl rfl) tC (op12_true b) hst hφ hf h1 h9 hbel (hQ (upd b 12 true))
    | false =>
      rw [← upd_same hb] at hst
      exact roundOf hblk hcap hx (.inl rfl) tC (op12_false b) hst hφ hf h1 h9 hbel (hQ (upd b 12 true))
  by_cases e29 : x = 13
  · subst e29
    cases hb : b 13 with
    | true =>
      rw [← upd_same hb] at hst
      exact roundOf hblk hcap hx (.inl rfl) tC (op13_true b) hst hφ hf h1 h9 hbel (hQ (upd b 13 true))
    | false =>
      rw [← upd_same hb] at hst
      exact roundOf hblk hcap hx (.inl rfl) tC (op13_false b) hst hφ hf h1 h9 hbel (hQ (upd b 13 true))
  by_cases e30 : x = 14
  · subst e30
    cases hb : b 14 with
    | true =>
      rw [← upd_same hb] at hst
      exact roundOf hblk hcap hx (.inl rfl) tC (op14_true b) hst hφ hf h1 h9 hbel (hQ (upd b 14 true))
    | false =>
      rw [← upd_same hb] at hst
      exact roundOf hblk hcap hx (.inl rfl) tC (op14_false b) hst hφ hf h1 h9 hbel (hQ (upd b 14 true))
  by_cases e31 : x = 15
  · subst e31
    cases hb : b 15 with
    | true =>
      rw [← upd_same hb] at hst
      exact roundOf hblk hcap hx (.inl rfl) tC (op15_true b) hst hφ hf h1 h9 hbel (hQ (upd b 15 true))
    | false =>
      rw [← upd_same hb] at hst
      exact roundOf hblk hcap hx (.inl rfl) tC (op15_false b) hst hφ hf h1 h9 hbel (hQ (upd b 15 true))
  by_cases e32 : x = 16
  · subst e32
    cases hb : b 16 with
    | true =>
      rw [← upd_same hb] at hst
      exact roundOf hblk hcap hx (.inl rfl) tC (op16_true b) hst hφ hf h1 h9 hbel (hQ (upd b 16 true))
    | false =>
      rw [← upd_same hb] at hst
      exact roundOf hblk hcap hx (.inl rfl) tC (op16_false b) hst hφ hf h1 h9 hbel (hQ (upd b 16 true))
  omega

theorem theEnd {W w : World} {a : Act} {φ : Phi} {V : Value} {L : Nat} {cap : Nat} {ad : Option Addr} {b : Nat → Bool} (hV : V = .slice ad L cap) (hV1 : isOneV V = true)
    (hst : @St noSymV W.heap.size 6 (stL b) φ w) (hφ : φ 0 = some none) (hf : @FL noSymV liveS 96 φ a) (h1 : a.tmps.getD 1 undef = V) (h9 : a.tmps.getD 9 undef = .int .i64 (L : Int)) (hbel : Below W.heap.size W w)
    {Q : Exit → Act → World → Prop} (hQ : ∀ ψ w' a', @St noSymV W.heap.size 6 (stL b) ψ w' → ψ 0 = some none → @FL noSymV liveS 96 ψ a' → a'.defers = a.defers → Below W.heap.size W w' → Q (.exit 0) a' w') :
    wpL Tryz.prog Q (flat B3) a w := by
  have hiV : ∀ m, isOneV (valR L L 0 V (.int .i64 0) m) = true := hiR hV1 rfl
  have htab : ∀ q ∈ tabE, q.good (valR L L 0 V (.int .i64 0)) := List.forall_mem_cons.2 ⟨⟨rfl, fun _ => ⟨_, _, _, hV, rfl⟩, fun h => by cases h⟩, List.forall_mem_cons.2 ⟨goodC (k := .i64) (a := L) (b := L) rfl rfl rfl rfl rfl (decide_eq_false (by omega)), List.forall_mem_nil _⟩⟩
  have hfrom := hst.from_
  obtain ⟨fsz, fnt, fval, fany⟩ := hf
  letI S : SymV := .plain (valR L L 0 V (.int .i64 0)) hiV
  letI TT : SymT := ⟨tabE, htab⟩
  have hst' : @St S W.heap.size 6 (stL b) φ w := St.inst (S1 := noSymV) (S2 := S) (p := fun _ => false) (fun _ h => by cases h) (stL_mem b) (stL_sym b) hst (Pin.none ⟨fun _ => trivial, fun _ h => h⟩)
  have hF : @FL S liveR 96 φ a := by
    refine ⟨fsz, fnt, fun p hp => ?_, fany⟩
    simp only [liveR, List.mem_cons, List.not_mem_nil, or_false] at hp
    rcases hp with rfl | rfl | rfl | rfl
    · exact VR.inst (S1 := noSymV) (S2 := S) (p := fun _ => false) (fun _ h => by cases h) 7 _ _ rfl (fval (5, pt 1) (by simp [liveS]))
    · exact VR.inst (S1 := noSymV) (S2 := S) (p := fun _ => false) (fun _ h => by cases h) 7 _ _ rfl (fval (7, pt 4) (by simp [liveS]))
    · exact .sym _ _ _ _ h1
    · exact .sym _ _ _ _ h9
  refine code_runE pok callX_ok (l' := stL b) (ρ := rho6) (live' := liveS) (lx := .exit 0) (is := [1, 2, 4]) (ts := [5, 7, 1, 9]) (bs := [some (.cells [pt 2]), some (stR b), some (stQ b)]) (vs := [pt 1, pt 4, sv 7, sv 1])
    (stL_ok b) rfl rfl (fun u => ends b _ hiV htab u) (by decide) rfl (fun p hp => ((stL_ok b).2 p hp).1) (fun p hp => ?_) (fun p hp => ?_) hst' hφ hF fun ψ w' a' hst2 hψ hf2 hbel2 hd _ => ?_
  · simp only [rho6, List.mem_cons, List.not_mem_nil, or_false] at hp
    rcases hp with rfl | rfl | rfl | rfl | rfl | rfl
    · exact ⟨.dead, rfl, .inl rfl⟩
    · exact ⟨_, rfl, .inr ⟨0, _, rfl, rfl, rfl⟩⟩
    · exact ⟨_, rfl, .inr ⟨1, _, rfl, rfl, rfl⟩⟩
    · exact ⟨.dead, rfl, .inl rfl⟩
    · exact ⟨_, rfl, .inr ⟨2, _, rfl, rfl, rfl⟩⟩
    · exact ⟨.dead, rfl, .inl rfl⟩
  · simp only [liveS, List.mem_cons, List.not_mem_nil, or_false] at hp
    rcases hp with rfl | rfl
    · exact ⟨0, _, rfl, rfl, rfl⟩
    · exact ⟨1, _, rfl, rfl, rfl⟩
  · refine hQ ψ w' a' (St.inst (S1 := S) (S2 := noSymV) (p := fun _ => false) (fun _ h => by cases h) (stL_mem b) (stL_sym b) hst2 (@Pin.none noSymV ψ w' ⟨fun _ => trivial, fun _ h => h⟩)) hψ (@FL.mk noSymV _ _ _ _ hf2.size hf2.nt (fun p hp => ?_) hf2.any) hd (hbel.trans hbel2)
    simp only [liveS, List.mem_cons, List.not_mem_nil, or_false] at hp
    rcases hp with rfl | rfl
    · exact VR.inst (S1 := S) (S2 := noSymV) (p := fun _ => false) (fun _ h => by cases h) 7 _ _ rfl (hf2.val (5, pt 1) (by simp [liveS]))
    · exact VR.inst (S1 := S) (S2 := noSymV) (p := fun _ => false) (fun _ h => by cases h) 7 _ _ rfl (hf2.val (7, pt 4) (by simp [liveS]))

/-- the loop, at a list that is there -/
theorem theLoop {W w : World} {a : Act} {φ : Phi} {blk off n cap : Nat} {c : Array Value} {e : TypeId} {fz : Nat × Nat} {b : Nat → Bool} {xs : Nat → Int}
    (hblk : W.heap[blk]? = some (.cells c e fz)) (hcap : n ≤ cap) (hn : n ≤ 12) (hx : ∀ i, i < n → c[off + i]? = some (.int .i64 (xs i)) ∧ (-9223372036854775808 ≤ xs i ∧ xs i ≤ 9223372036854775807))
    (hst : @St noSymV W.heap.size 6 (stL b) φ w) (hφ : φ 0 = some none) (hf : @FL noSymV liveS 96 φ a) (h1 : a.tmps.getD 1 undef = slV blk off n cap) (h9 : a.tmps.getD 9 undef = .int .i64 0) (hbel : Below W.heap.size W w)
    {Q : Exit → Act → World → Prop} (hQ : ∀ b' ψ w' a', @St noSymV W.heap.size 6 (stL b') ψ w' → ψ 0 = some none → @FL noSymV liveS 96 ψ a' → a'.defers = a.defers → Below W.heap.size W w' → Q .normal a' w') :
    (Code.block 0 (.loop B3)).wp Tryz.prog Q a w := by
  refine wp_block (loop_down (Q := Exit.inBlock 0 Q) (I := fun k a' w' => ∃ (b' : Nat → Bool) (ψ : Phi), k ≤ n ∧ @St noSymV W.heap.size 6 (stL b') ψ w' ∧ ψ 0 = some none ∧ @FL noSymV liveS 96 ψ a' ∧ a'.tmps.getD 1 undef = slV blk off n cap ∧ a'.tmps.getD 9 undef = .int .i64 ((n - k : Nat) : Int) ∧ a'.defers = a.defers ∧ Below W.heap.size W w') ?_ ?_ n a w
    ⟨b, φ, Nat.le_refl _, hst, hφ, hf, h1, by rw [h9, Nat.sub_self]; rfl, rfl, hbel⟩)
  · rintro k a1 w1 ⟨b1, ψ, hk, s1, s2, s3, s4, s5, s6, s7⟩
    obtain ⟨q1, q2⟩ := hx (n - (k + 1)) (by omega)
    refine round hblk hcap (by omega) hn q1 q2 s1 s2 s3 s4 s5 s7 fun b' ψ' w' a' t1 t2 t3 t4 t5 t6 t7 => ?_
    exact ⟨b', ψ', by omega, t1, t2, t3, t4, by rw [t5]; congr 1; omega, t6.trans s6, t7⟩
  · rintro a1 w1 ⟨b1, ψ, hk, s1, s2, s3, s4, s5, s6, s7⟩
    refine theEnd (V := slV blk off n cap) (L := n) rfl (Nat.ble_eq_true_of_le hcap) s1 s2 s3 s4 (by rw [s5]; rfl) s7 fun ψ' w' a' t1 t2 t3 t4 t5 => ?_
    exact hQ b1 ψ' w' a' t1 t2 t3 (t4.trans s6) t5
end Go.Proofs.YtogdmfknfkcjdaaGreat.Rs
