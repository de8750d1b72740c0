/- RulesSessions: what the law does behind its loop: both rooms have the same sessions. -/
import Derived.Test.YtogdmfknfkcjdaaGreatRsD
import Derived.Test.YtogdmfknfkcjdaaGreatAwakeP
namespace Go.Proofs.YtogdmfknfkcjdaaGreat.Rs
open Go Go.Eng Go.RowKit

noncomputable def OPS : Array Oper := match post3.getD 0 .skip with
  | .region _ ops _ => ops
  | _ => #[]
theorem postS : post3 = [Code.region 15 OPS false, .ret] := by kernel_rfl
theorem opsN : OPS.size = 13 := by kernel_rfl
noncomputable def rA : List Oper := OPS.toList.take 4
noncomputable def rC : List Oper := (OPS.toList.drop 5).take 1
noncomputable def rE : List Oper := (OPS.toList.drop 7).take 6
theorem nA : rA.length = 4 := by kernel_rfl
theorem nC : rC.length = 1 := by kernel_rfl
theorem nE : rE.length = 6 := by kernel_rfl
theorem okA : rA.all okOp = true := by kernel_rfl
theorem okC : rC.all okOp = true := by kernel_rfl
theorem okE : rE.all okOp = true := by kernel_rfl
theorem preA (i : Nat) (o : Oper) (h : rA[i]? = some o) : OPS[0 + i]? = some o := by
  have hlt := (List.getElem?_eq_some_iff.1 h).1
  rw [nA] at hlt
  unfold rA at h
  rw [List.getElem?_take_of_lt hlt] at h
  rw [Nat.zero_add]
  simpa using h
theorem preC (i : Nat) (o : Oper) (h : rC[i]? = some o) : OPS[5 + i]? = some o := by
  have hlt := (List.getElem?_eq_some_iff.1 h).1
  rw [nC] at hlt
  unfold rC at h
  rw [List.getElem?_take_of_lt hlt, List.getElem?_drop] at h
  simpa using h
theorem preE (i : Nat) (o : Oper) (h : rE[i]? = some o) : OPS[7 + i]? = some o := by
  have hlt := (List.getElem?_eq_some_iff.1 h).1
  rw [nE] at hlt
  unfold rE at h
  rw [List.getElem?_take_of_lt hlt, List.getElem?_drop] at h
  simpa using h
noncomputable def o4 : Oper := (OPS[4]?).getD default
noncomputable def o6 : Oper := (OPS[6]?).getD default
theorem at4 : OPS[4]? = some o4 := by kernel_rfl
theorem at6 : OPS[6]? = some o6 := by kernel_rfl
theorem ok4 : okOp o4 = true := by kernel_rfl
theorem ok6 : okOp o6 = true := by kernel_rfl
theorem dst4 : o4.dst = some 88 := by kernel_rfl
theorem dst6 : o6.dst = some 90 := by kernel_rfl

theorem runA [SymV] [SymT] (b : Nat → Bool) (u : Nat → Value) : outs ((runSeq Tryz.prog ⟨552, 554, 386⟩ callX OPS.toList rA (mkF liveS u 96) (mem 6 (stL b))).map fun p => (LX.norm, p.1, p.2)) [1, 2, 4] [86, 87, 7] = some (.norm, 96, [some (.cells [pt 2]), some (stR b), some (stQ b)], [.bool false, pt 1, pt 4]) := by kernel_rfl
def liveB : List (Nat × Value) := [(86, .bool false), (87, pt 1), (7, pt 4)]
theorem wantB [SymV] [SymT] (u : Nat → Value) : lwanted OPS.toList o4 (mkF liveB u 96) = true := by kernel_rfl
theorem eopB [SymV] [SymT] (b : Nat → Bool) (u : Nat → Value) : eop Tryz.prog ⟨552, 554, 386⟩ (mkF liveB u 96).lev o4 (mem 7 (stL b ++ [(6, .dead)])) = some (.enter 20 [pt 1], mem 7 (stL b ++ [(6, .dead)])) := by kernel_rfl
def liveC (c : Nat) : List (Nat × Value) := [(88, outS 6 c), (86, .bool false), (7, pt 4)]
theorem runC [SymV] [SymT] (b : Nat → Bool) (c : Nat) (u : Nat → Value) : outs ((runSeq Tryz.prog ⟨552, 554, 386⟩ callX OPS.toList rC (mkF (liveC c) u 96) (mem 7 (stL b ++ [(6, blk c)]))).map fun p => (LX.norm, p.1, p.2)) [1, 2, 4, 6] [86, 88, 89] = some (.norm, 96, [some (.cells [pt 2]), some (stR b), some (stQ b), some (blk c)], [.bool false, outS 6 c, pt 4]) := by kernel_rfl
def liveD (c : Nat) : List (Nat × Value) := [(86, .bool false), (88, outS 6 c), (89, pt 4)]
theorem wantD [SymV] [SymT] (c : Nat) (u : Nat → Value) : lwanted OPS.toList o6 (mkF (liveD c) u 96) = true := by kernel_rfl
theorem eopD [SymV] [SymT] (b : Nat → Bool) (c : Nat) (u : Nat → Value) : eop Tryz.prog ⟨552, 554, 386⟩ (mkF (liveD c) u 96).lev o6 (mem 8 ((stL b ++ [(6, blk c)]) ++ [(7, .dead)])) = some (.enter 21 [pt 4], mem 8 ((stL b ++ [(6, blk c)]) ++ [(7, .dead)])) := by kernel_rfl
def liveE (c : Nat) : List (Nat × Value) := [(90, outS 7 c), (86, .bool false), (88, outS 6 c)]
def tabS (c : Nat) : List SRule := (List.range c).map fun i => .bin .neq (sv (100 + i)) (sv (100 + i)) (.bool false)
noncomputable def callE [SymV] [SymT] : CallT := callFF Tryz.prog ⟨552, 554, 386⟩ (prim1 12 primTrue) 100000 60
def RunE (c : Nat) : Prop := ∀ (S : SymV) (ok : ∀ r ∈ tabS c, r.good SymV.val) (b : Nat → Bool) (u : Nat → Value), outs ((@runSeq S (@SymT.mk S (tabS c) ok) Tryz.prog ⟨552, 554, 386⟩ (@callE S (@SymT.mk S (tabS c) ok)) OPS.toList rE (mkF (liveE c) u 96) (mem 8 ((stL b ++ [(6, blk c)]) ++ [(7, blk c)]))).map fun p => (LX.norm, p.1, p.2)) [] [4] = some (.norm, 96, [], [.bool true])
theorem runE0 : RunE 0 := by intro S ok b u; kernel_rfl
theorem runE1 : RunE 1 := by intro S ok b u; kernel_rfl
theorem runE2 : RunE 2 := by intro S ok b u; kernel_rfl
theorem runE3 : RunE 3 := by intro S ok b u; kernel_rfl
theorem runE4 : RunE 4 := by intro S ok b u; kernel_rfl
theorem runE5 : RunE 5 := by intro S ok b u; kernel_rfl
theorem runE6 : RunE 6 := by intro S ok b u; kernel_rfl
theorem runE7 : RunE 7 := by intro S ok b u; kernel_rfl
theorem runE8 : RunE 8 := by intro S ok b u; kernel_rfl
theorem runE9 : RunE 9 := by intro S ok b u; kernel_rfl
theorem runE10 : RunE 10 := by intro S ok b u; kernel_rfl
theorem runE11 : RunE 11 := by intro S ok b u; kernel_rfl
theorem runE12 : RunE 12 := by intro S ok b u; kernel_rfl
theorem runE13 : RunE 13 := by intro S ok b u; kernel_rfl
theorem runE14 : RunE 14 := by intro S ok b u; kernel_rfl
theorem runE15 : RunE 15 := by intro S ok b u; kernel_rfl
theorem runE16 : RunE 16 := by intro S ok b u; kernel_rfl
theorem runE : ∀ c, c ≤ 16 → RunE c
  | 0, _ => runE0
  | 1, _ => runE1
  | 2, _ => runE2
  | 3, _ => runE3
  | 4, _ => runE4
  | 5, _ => runE5
  | 6, _ => runE6
  | 7, _ => runE7
  | 8, _ => runE8
  | 9, _ => runE9
  | 10, _ => runE10
  | 11, _ => runE11
  | 12, _ => runE12
  | 13, _ => runE13
  | 14, _ => runE14
  | 15, _ => runE15
  | 16, _ => runE16
  | c + 17, h => absurd h (by omega)

theorem callE_ok [SymV] [SymT] : CallSound Tryz.prog callE := fun g args m v m' h hw => by
  unfold callE at h
  rw [callFF_eq] at h
  exact call_sound pok (prim1_ok awakeP) 100000 60 g args m v m' h hw

/-- the numbers of the open sessions, ascending -/
def lsb (b : Nat → Bool) : Nat → List Int
  | 0 => []
  | j + 1 => lsb b j ++ (bif b (j + 1) then [.ofNat (j + 1)] else [])
theorem lsb_len (b : Nat → Bool) : ∀ j, (lsb b j).length = cn b j
  | 0 => rfl
  | j + 1 => by
    unfold lsb cn
    rw [List.length_append, lsb_len b j]
    cases b (j + 1) <;> rfl
theorem lsb_more (b : Nat → Bool) (j : Nat) : ∀ m, ∃ t, lsb b (j + m) = lsb b j ++ t
  | 0 => ⟨[], by simp⟩
  | m + 1 => by
    obtain ⟨t, ht⟩ := lsb_more b j m
    refine ⟨t ++ (bif b (j + m + 1) then [.ofNat (j + m + 1)] else []), ?_⟩
    show lsb b (j + m) ++ (bif b (j + m + 1) then [.ofNat (j + m + 1)] else []) = _
    rw [ht, List.append_assoc]
theorem lsb_at (b : Nat → Bool) {j : Nat} (hj : j < 16) (hb : b (j + 1) = true) : (lsb b 16).getD (cn b j) 0 = .ofNat (j + 1) := by
  obtain ⟨t, ht⟩ := lsb_more b (j + 1) (16 - (j + 1))
  rw [show j + 1 + (16 - (j + 1)) = 16 by omega] at ht
  have h1 : lsb b (j + 1) = lsb b j ++ [.ofNat (j + 1)] := by
    show lsb b j ++ _ = _
    rw [hb]; rfl
  rw [ht, h1, List.append_assoc, List.getD_eq_getElem?_getD, List.getElem?_append_right (by rw [lsb_len]; exact Nat.le_refl _), lsb_len, Nat.sub_self]
  rfl
def valL (b : Nat → Bool) (n : Nat) : Value := .int .i64 ((lsb b 16).getD (n - 100) 0)

theorem Fx.ext {m : Nat} {φ ψ : Phi} (h : Fx m φ ψ) (hb : Bd φ m) : Ext φ ψ := fun id hid => (h id (hb id hid)).2 hid

theorem up6 [SymV] {b : Nat → Bool} {base : Nat} {φ : Phi} {w : World} (h : St base 6 (stL b) φ w) : St base 7 (stL b ++ [(6, .dead)]) φ w := by
  obtain ⟨⟨hl, hd, hi, hp⟩, hbd, hf, hs⟩ := h
  have e : ∀ id, id < 6 → (mem 7 (stL b ++ [(6, .dead)])).get id = (mem 6 (stL b)).get id := fun id hid => by
    rw [mem_get (fun p hp => by have := ((okP b .dead (Nat.zero_le _)).2 p hp).1; omega) (by decide) (by omega), mem_get (fun p hp => by have := ((stL_ok b).2 p hp).1; omega) (by decide) hid]
    match id, hid with
    | 0, _ => rfl
    | 1, _ => rfl
    | 2, _ => rfl
    | 3, _ => rfl
    | 4, _ => rfl
    | 5, _ => rfl
  exact ⟨⟨fun id x hx => by rw [e id (hbd id (by rw [hx]; simp))]; exact hl id x hx, fun id hx => by rw [e id (hbd id (by rw [hx]; simp))]; exact hd id hx, hi, hp⟩, fun id hid => by have := hbd id hid; omega, hf, hs⟩

theorem up7 [SymV] {b : Nat → Bool} {B6 : LB} (hB : ubB B6 ≤ 1) {base : Nat} {φ : Phi} {w : World} (h : St base 7 (stL b ++ [(6, B6)]) φ w) : St base 8 ((stL b ++ [(6, B6)]) ++ [(7, .dead)]) φ w := by
  obtain ⟨⟨hl, hd, hi, hp⟩, hbd, hf, hs⟩ := h
  have e : ∀ id, id < 7 → (mem 8 ((stL b ++ [(6, B6)]) ++ [(7, .dead)])).get id = (mem 7 (stL b ++ [(6, B6)])).get id := fun id hid => by
    rw [mem_get (fun p hp => by have := ((okQ b hB .dead (Nat.zero_le _)).2 p hp).1; omega) (by decide) (by omega), mem_get (fun p hp => by have := ((okP b B6 hB).2 p hp).1; omega) (by decide) hid]
    match id, hid with
    | 0, _ => rfl
    | 1, _ => rfl
    | 2, _ => rfl
    | 3, _ => rfl
    | 4, _ => rfl
    | 5, _ => rfl
    | 6, _ => rfl
  exact ⟨⟨fun id x hx => by rw [e id (hbd id (by rw [hx]; simp))]; exact hl id x hx, fun id hx => by rw [e id (hbd id (by rw [hx]; simp))]; exact hd id hx, hi, hp⟩, fun id hid => by have := hbd id hid; omega, hf, hs⟩

theorem fin {W w : World} {a : Act} {φ : Phi} (b : Nat → Bool) (hst : @St noSymV W.heap.size 6 (stL b) φ w) (hφ : φ 0 = some none) (hf : @FL noSymV liveS 96 φ a) (hd : a.defers = []) (hbel : Below W.heap.size W w)
    {Qf : Exit → Act → World → Prop} (hQ : ∀ a' w', a'.defers = [] → a'.tmps.getD 4 undef = .bool true → Below W.heap.size W w' → Qf .ret a' w') : wpL Tryz.prog Qf post3 a w := by
  have hiL : ∀ n, isOneV (valL b n) = true := fun _ => rfl
  have okS : ∀ r ∈ tabS (cn b 16), r.good (valL b) := fun r hr => by
    obtain ⟨i, _, rfl⟩ := List.mem_map.1 hr
    exact goodC (k := .i64) (a := (lsb b 16).getD (100 + i - 100) 0) (b := (lsb b 16).getD (100 + i - 100) 0) rfl rfl rfl rfl rfl (by simp [cmpB])
  obtain ⟨fsz, fnt, fval, fany⟩ := hf
  letI S : SymV := .plain (valL b) hiL
  letI TT : SymT := ⟨tabS (cn b 16), okS⟩
  have hval : ∀ j, j < 16 → b (j + 1) = true → SymV.val (100 + cn b j) = .int .i64 (.ofNat (j + 1)) := fun j hj hb => by
    show Value.int .i64 ((lsb b 16).getD (100 + cn b j - 100) 0) = _
    rw [Nat.add_sub_cancel_left, lsb_at b hj hb]
  have hst' : @St S W.heap.size 6 (stL b) φ w := St.inst (S1 := noSymV) (S2 := S) (p := fun _ => false) (fun _ h => by cases h) (stL_mem b) (stL_sym b) hst (Pin.none ⟨fun _ => trivial, fun _ h => h⟩)
  have hF : @FL S liveS 96 φ a := by
    refine ⟨fsz, fnt, fun p hp => ?_, fany⟩
    simp only [liveS, List.mem_cons, List.not_mem_nil, or_false] at hp
    rcases hp with rfl | rfl
    · exact VR.inst (S1 := noSymV) (S2 := S) (p := fun _ => false) (fun _ h => by cases h) 7 _ _ rfl (fval (5, pt 1) (by simp [liveS]))
    · exact VR.inst (S1 := noSymV) (S2 := S) (p := fun _ => false) (fun _ h => by cases h) 7 _ _ rfl (fval (7, pt 4) (by simp [liveS]))
  rw [postS]
  show (Code.region 15 OPS false).wp Tryz.prog (Exit.then (wpL Tryz.prog Qf [.ret]) Qf) a w
  refine wp_region ?_
  rw [List.range_eq_range', opsN]
  -- up to the first call
  have hA := ops_runE (n := 6) (n' := 6) (k := 0) (j := 9) (Q := Exit.then (wpL Tryz.prog Qf [.ret]) Qf) pok callX_ok okA preA (l' := stL b) (ρ := rho6) (live' := liveB) (is := [1, 2, 4]) (ts := [86, 87, 7]) (bs := [some (.cells [pt 2]), some (stR b), some (stQ b)]) (vs := [.bool false, pt 1, pt 4])
    (stL_ok b) rfl rfl (fun u => runA b u) (by decide) rfl (fun p hp => ((stL_ok b).2 p hp).1) (fun p hp => by
      simp only [rho6, List.mem_cons, List.not_mem_nil, or_false] at hp
      rcases hp with rfl | rfl | rfl | rfl | rfl | rfl
      · exact ⟨.dead, rfl, .inl rfl⟩
      · exact ⟨_, rfl, .inr ⟨0, _, rfl, rfl, rfl⟩⟩
      · exact ⟨_, rfl, .inr ⟨1, _, rfl, rfl, rfl⟩⟩
      · exact ⟨.dead, rfl, .inl rfl⟩
      · exact ⟨_, rfl, .inr ⟨2, _, rfl, rfl, rfl⟩⟩
      · exact ⟨.dead, rfl, .inl rfl⟩) (fun p hp => by
      simp only [liveB, List.mem_cons, List.not_mem_nil, or_false] at hp
      rcases hp with rfl | rfl | rfl
      · exact ⟨0, _, rfl, rfl, rfl⟩
      · exact ⟨1, _, rfl, rfl, rfl⟩
      · exact ⟨2, _, rfl, rfl, rfl⟩) hst' hφ hF
  rw [nA] at hA
  refine hA fun ψ1 w1 a1 s1 s2 s3 s4 s5 _ => ?_
  -- the program's Sessions
  refine call_opsE (k := 4) (j := 8) pok at4 ok4 (okP b .dead (Nat.zero_le _)) rfl wantB (fun u => ⟨_, eopB b u⟩) (up6 s1) s2 s3 fun args' ha => ?_
  cases ha with
  | cons _ r _ ys hr hys =>
  cases hys
  refine (sessP b hval (up6 s1) s2 hr).mono ?_
  rintro e w2 ⟨v2, ψ2, rfl, q1, q2, q3, q4, q5⟩
  refine ⟨v2, rfl, ?_⟩
  have f2 : FL (liveC (cn b 16)) 96 ψ2 (a1.put o4.dst v2) := by
    rw [dst4]
    have := (s3.mono (q4.ext s1.bd)).put (d := 88) (v := outS 6 (cn b 16)) (v' := v2) (by decide) q3 (fun p hp => by
      simp only [liveB, List.mem_cons, List.not_mem_nil, or_false] at hp
      rcases hp with rfl | rfl | rfl <;> decide)
    refine ⟨this.size, this.nt, fun p hp => this.val p ?_, this.any⟩
    simp only [liveC, List.mem_cons, List.not_mem_nil, or_false] at hp
    rcases hp with rfl | rfl | rfl <;> simp [liveB]
  have d2 : (a1.put o4.dst v2).defers = a1.defers := put_defers _ _ _
  generalize a1.put o4.dst v2 = a2 at f2 d2 ⊢
  -- a move
  have hC := ops_runE (n := 7) (n' := 7) (k := 5) (j := 7) (Q := Exit.then (wpL Tryz.prog Qf [.ret]) Qf) pok callX_ok okC preC (l' := stL b ++ [(6, blk (cn b 16))]) (ρ := rhoNP) (live' := liveD (cn b 16)) (is := [1, 2, 4, 6]) (ts := [86, 88, 89]) (bs := [some (.cells [pt 2]), some (stR b), some (stQ b), some (blk (cn b 16))]) (vs := [.bool false, outS 6 (cn b 16), pt 4])
    (okP b _ (ub_blk _)) rfl rfl (fun u => runC b (cn b 16) u) (by decide) rfl (fun p hp => ((okP b _ (ub_blk _)).2 p hp).1) (fun p hp => by
      simp only [rhoNP, List.mem_cons, List.not_mem_nil, or_false] at hp
      rcases hp with rfl | rfl | rfl | rfl | rfl | rfl | rfl
      · exact ⟨.dead, rfl, .inl rfl⟩
      · exact ⟨_, rfl, .inr ⟨0, _, rfl, rfl, rfl⟩⟩
      · exact ⟨_, rfl, .inr ⟨1, _, rfl, rfl, rfl⟩⟩
      · exact ⟨.dead, rfl, .inl rfl⟩
      · exact ⟨_, rfl, .inr ⟨2, _, rfl, rfl, rfl⟩⟩
      · exact ⟨.dead, rfl, .inl rfl⟩
      · exact ⟨_, rfl, .inr ⟨3, _, renB_blk _ _, rfl, rfl⟩⟩) (fun p hp => by
      simp only [liveD, List.mem_cons, List.not_mem_nil, or_false] at hp
      rcases hp with rfl | rfl | rfl
      · exact ⟨0, _, rfl, rfl, rfl⟩
      · exact ⟨1, _, by generalize cn b 16 = c; cases c <;> rfl, rfl, rfl⟩
      · exact ⟨2, _, rfl, rfl, rfl⟩) q1 q2 f2
  rw [nC] at hC
  refine hC fun ψ3 w3 a3 t1 t2 t3 t4 t5 _ => ?_
  -- the reference's Sessions
  refine call_opsE (k := 6) (j := 6) pok at6 ok6 (okQ b (ub_blk _) .dead (Nat.zero_le _)) rfl (wantD _) (fun u => ⟨_, eopD b (cn b 16) u⟩) (up7 (ub_blk _) t1) t2 t3 fun args' ha => ?_
  cases ha with
  | cons _ r _ ys hr hys =>
  cases hys
  refine (sessQ b (ub_blk _) (fun ρ => renB_blk ρ _) hval (up7 (ub_blk _) t1) t2 hr).mono ?_
  rintro e w4 ⟨v4, ψ4, rfl, u1, u2, u3, u4, u5⟩
  refine ⟨v4, rfl, ?_⟩
  have f4 : FL (liveE (cn b 16)) 96 ψ4 (a3.put o6.dst v4) := by
    rw [dst6]
    have := (t3.mono (u4.ext t1.bd)).put (d := 90) (v := outS 7 (cn b 16)) (v' := v4) (by decide) u3 (fun p hp => by
      simp only [liveD, List.mem_cons, List.not_mem_nil, or_false] at hp
      rcases hp with rfl | rfl | rfl <;> (intro h0; cases h0))
    refine ⟨this.size, this.nt, fun p hp => this.val p ?_, this.any⟩
    simp only [liveE, List.mem_cons, List.not_mem_nil, or_false] at hp
    rcases hp with rfl | rfl | rfl <;> simp [liveD]
  have d4 : (a3.put o6.dst v4).defers = a3.defers := put_defers _ _ _
  generalize a3.put o6.dst v4 = a4 at f4 d4 ⊢
  -- the rest
  have hE := ops_runE (n := 8) (n' := 1) (k := 7) (j := 0) (Q := Exit.then (wpL Tryz.prog Qf [.ret]) Qf) pok callE_ok okE preE (l' := memS) (ρ := [(0, 0)]) (live' := [(4, .bool true)]) (is := []) (ts := [4]) (bs := []) (vs := [.bool true])
    (okQ b (ub_blk _) _ (ub_blk _)) rfl rfl (fun u => runE (cn b 16) (cn_le b 16) S okS b u) (by decide) rfl (fun p hp => by simp only [memS, List.mem_singleton] at hp; subst hp; decide) (fun p hp => by
      simp only [List.mem_singleton] at hp
      subst hp
      exact ⟨.dead, rfl, .inl rfl⟩) (fun p hp => by
      simp only [List.mem_singleton] at hp
      subst hp
      exact ⟨0, _, rfl, rfl, rfl⟩) u1 u2 f4
  rw [nE] at hE
  refine hE fun ψ5 w5 a5 x1 x2 x3 x4 x5 _ => ?_
  show Code.ret.wp Tryz.prog (Exit.then (wpL Tryz.prog Qf []) Qf) a5 w5
  refine wp_ret ?_
  have hb4 := x3.val (4, .bool true) (by simp)
  refine hQ a5 w5 (x5.trans (d4.trans (t5.trans (d2.trans (s5.trans hd))))) ?_ ((((hbel.trans s4).trans q5).trans t4).trans (u5.trans x4))
  generalize a5.tmps.getD 4 undef = y at hb4
  cases hb4
  rfl
end Go.Proofs.YtogdmfknfkcjdaaGreat.Rs
