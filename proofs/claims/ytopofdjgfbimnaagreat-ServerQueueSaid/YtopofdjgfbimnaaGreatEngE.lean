/- The engine's quiet operations are those of the model: the operations one by one. -/
import Derived.Test.YtopofdjgfbimnaaGreatEngD
namespace Go.Eng
variable [SymV] [SymT]
section
variable {P : Program}

theorem isNum_of_bin {op : BinOp} {t : TypeId} {k k' : IntKind} {a b : Int} {v : Value} (h : pureSem (binOp op t (.int k a) (.int k' b)) = some v) : ubF 1 v = 0 := by
  have _s := SymT.tab
  have hall : ∀ s : Sem Value, (s = .pure v) → pureSem s = some v := fun s hs => by rw [hs]; rfl
  cases op <;> simp only [binOp] at h <;> first
    | (split at h
       · simp [pureSem, stuck] at h
       · simp only [Op.intArith, Op.intDiv, Op.intBits, Op.intCmp] at h
         first
           | (simp [pureSem, Pure.pure] at h; subst h; rfl)
           | (split at h
              · simp [pureSem, runtimePanic, goPanic, program, bind, Sem.bind] at h
              · simp [pureSem, Pure.pure] at h; subst h; rfl))
    | (simp only [Op.shift] at h
       split at h
       · simp [pureSem, runtimePanic, goPanic, program, bind, Sem.bind] at h
       · simp [pureSem, Pure.pure] at h; subst h; rfl)

def eqOther : Value → Value → Bool
  | .int .., .int .. => false
  | .float .., .float .. => false
  | .complex .., .complex .. => false
  | .string .., .string .. => false
  | _, _ => true

theorem eqOther_eql (t : TypeId) (x y : Value) (h : eqOther x y = true) : binOp .eql t x y = (do pure (.bool (← Op.equal t x y))) := by
  have _s := SymT.tab
  cases x <;> cases y <;> first | rfl | (simp [eqOther] at h)
theorem eqOther_neq (t : TypeId) (x y : Value) (h : eqOther x y = true) : binOp .neq t x y = (do pure (.bool (!(← Op.equal t x y)))) := by
  have _s := SymT.tab
  cases x <;> cases y <;> first | rfl | (simp [eqOther] at h)

theorem eqOther_VR {φ : Phi} {x y x' y' : Value} (hsx : isSym x = false) (hsy : isSym y = false) (hx : VR φ x x') (hy : VR φ y y') : eqOther x' y' = eqOther x y := by
  have _s := SymT.tab
  have _s := SymT.tab
  cases hx <;> cases hy <;> first | rfl | (exfalso; simp [isSym] at hsx; done) | (exfalso; simp [isSym] at hsy; done)

theorem bin_sim {φ : Phi} {op : BinOp} {t : TypeId} {xo yo : Operand} {x y x' y' v : Value} (w : World) (h : lbin P op t (isConst xo || isConst yo) x y = some v)
    (hx : VR φ x x') (hy : VR φ y y') : ∃ v', (do eqGuard op t xo yo x' y'; binOp op t x' y' : Sem Value).run P w = .ok v' w ∧ VR φ v v' := by
  unfold lbin at h
  split at h
  · rename_i k a k' b
    cases hx; cases hy
    refine ⟨v, ?_, VR.refl 1 v (isNum_of_bin h)⟩
    rw [bin_int]
    have := pureSem_run (P := P) h w
    simpa using this
  · rename_i a b
    cases hx; cases hy
    rw [bin_str]
    cases op <;> simp [lstr] at h
    · cases hs : (a.size + b.size).ble 1048576 with
      | false => rw [hs] at h; cases h
      | true =>
        rw [hs] at h
        simp only [cond_true, Option.some.injEq] at h
        subst h
        refine ⟨_, ?_, .string _⟩
        have hle := Nat.le_of_ble_eq_true hs
        have hm : IntKind.i64.max = 9223372036854775807 := by decide
        have hn : ¬ (((a.size + b.size : Nat) : Int) > IntKind.i64.max) := by
          rw [hm]; omega
        simp only [binOp, Op.stringOp, if_neg hn, append_bytes]
        simp
    · subst h
      refine ⟨_, ?_, .bool _⟩
      simp [binOp, Op.stringOp, ByteArray.toList_eq]
    · subst h
      refine ⟨_, ?_, .bool _⟩
      simp [binOp, Op.stringOp, ByteArray.toList_eq]
    · subst h
      refine ⟨_, ?_, .bool _⟩
      simp [binOp, Op.stringOp, ByteArray.toList_eq]
  · rename_i hn1 hn2
    cases hsym : (isSym x || isSym y) with
    | true =>
      rw [hsym] at h
      simp only [cond_true] at h
      obtain ⟨g1, g2, g3, g4⟩ := slook_spec SymT.ok h
      obtain ⟨k1, a1, rfl, d1⟩ := hx.num g1
      obtain ⟨k2, a2, rfl, d2⟩ := hy.num g2
      have g := g4 t
      rw [d1, d2] at g
      refine ⟨_, ?_, VR.of_den g3⟩
      rw [bin_int]
      have := pureSem_run (P := P) g w
      simpa using this
    | false =>
    rw [hsym] at h
    simp only [cond_false] at h
    obtain ⟨hsx, hsy⟩ : isSym x = false ∧ isSym y = false := by simpa using hsym
    have ho : ∀ b, leq P 12 t x y = some b → eqOther x y = true := by
      intro b hb
      cases x <;> cases y <;> first
        | rfl
        | exact (hn1 _ _ _ _ rfl rfl).elim
        | exact (hn2 _ _ rfl rfl).elim
        | (exfalso; simp [isSym] at hsx; done)
        | (exfalso; simp [leq] at hb; done)
        | (exfalso; revert hb; unfold leq; cases P.underlying t with
           | none => simp
           | some d => cases d <;> simp [symEq, isSym])
    split at h
    · cases hg : lguard P t (isConst xo || isConst yo) x y with
      | false => simp [hg] at h
      | true =>
        simp only [hg, cond_true, Option.map_eq_some_iff] at h
        obtain ⟨b, hb, rfl⟩ := h
        refine ⟨.bool b, ?_, .bool b⟩
        rw [eqOther_eql t x' y' (by rw [eqOther_VR hsx hsy hx hy]; exact ho b hb)]
        have he : (Op.equal t x' y').run P w = .ok b w := leq_sim w 12 9988 t x y x' y' b hb hx hy
        simp [guard_sim w hsx hsy hg hx hy, he]
    · cases hg : lguard P t (isConst xo || isConst yo) x y with
      | false => simp [hg] at h
      | true =>
        simp only [hg, cond_true, Option.map_eq_some_iff] at h
        obtain ⟨b, hb, rfl⟩ := h
        refine ⟨.bool (!b), ?_, .bool _⟩
        rw [eqOther_neq t x' y' (by rw [eqOther_VR hsx hsy hx hy]; exact ho b hb)]
        have he : (Op.equal t x' y').run P w = .ok b w := leq_sim w 12 9988 t x y x' y' b hb hx hy
        simp [guard_sim w hsx hsy hg hx hy, he]
    · cases h


/-- what is known of a live pointer -/
theorem ptr_cells {φ : Phi} {g : Nat → Option LB} {w : World} {b off : Nat} {y : Value} {c : List Value} (hm : MRp φ g w) (hv : VR φ (.pointer (some ⟨b, off, none⟩)) y) (hc : lcells g b = some c) :
    ∃ l, φ b = some (some l) ∧ y = .pointer (some ⟨l.b, l.sh + off, none⟩) ∧ BRr φ c l w := by
  have _s := SymT.tab
  unfold lcells at hc
  split at hc
  · rename_i c' hg
    cases hc
    cases hv with
    | ptr _ _ l hl => exact ⟨l, hl, rfl, BR.rd (.inl ((hm b _ hg).1 l hl))⟩
    | pdead _ _ _ a hl => cases (hm b _ hg).2 hl
  · rename_i c' hg
    cases hc
    cases hv with
    | ptr _ _ l hl => exact ⟨l, hl, rfl, BR.rd (.inr ((hm b _ hg).1 l hl))⟩
    | pdead _ _ _ a hl => cases (hm b _ hg).2 hl
  · cases hc

/-- what is known of a live slice: its cells, and where they are if it has some -/
theorem slice_cells {φ : Phi} {g : Nat → Option LB} {w : World} {a : Addr} {n cp : Nat} {y : Value} {c : List Value} (hm : MRp φ g w) (hv : VR φ (.slice (some a) n cp) y) (hc : lcells g a.block = some c) :
    ∃ l o cp', φ a.block = some (some l) ∧ y = .slice (some ⟨l.b, o, none⟩) n cp' ∧ (o = l.sh + a.off ∨ n = 0) ∧ BRr φ c l w := by
  have _s := SymT.tab
  unfold lcells at hc
  split at hc
  · rename_i c' hg
    cases hc
    cases hv with
    | slice b off sp _ _ cap' l hl => exact ⟨l, _, cap', hl, rfl, .inl rfl, BR.rd (.inl ((hm b _ hg).1 l hl))⟩
    | sdead b _ _ _ _ _ a' hl => cases (hm b _ hg).2 hl
    | szero b _ _ o l hl => exact ⟨l, o, 0, hl, rfl, .inr rfl, BR.rd (.inl ((hm b _ hg).1 l hl))⟩
  · rename_i c' hg
    cases hc
    cases hv with
    | slice b off sp _ _ cap' l hl => exact ⟨l, _, cap', hl, rfl, .inl rfl, BR.rd (.inr ((hm b _ hg).1 l hl))⟩
    | sdead b _ _ _ _ _ a' hl => cases (hm b _ hg).2 hl
    | szero b _ _ o l hl => exact ⟨l, o, 0, hl, rfl, .inr rfl, BR.rd (.inr ((hm b _ hg).1 l hl))⟩
  · cases hc

theorem bytes_sim {φ : Phi} {F : Value → ByteArray → Sem (ForInStep ByteArray)} (hF : ∀ n s, F (.int .u8 n) s = pure (ForInStep.yield (s.push (UInt8.ofNat n.toNat)))) :
    ∀ {vs vs' : List Value} {bs : List UInt8}, VRL φ vs vs' → lbytes vs = some bs →
    ∀ (s : ByteArray) (w : World), (forIn vs' s F).run P w = .ok ⟨⟨s.data.toList ++ bs⟩⟩ w
  | _, _, bs, .nil, h, s, w => by have _s := SymT.tab; simp [lbytes] at h; subst h; simp
  | _, _, bs, .cons x y xs ys h1 h2, h, s, w => by
    unfold lbytes at h
    split at h
    · rename_i hh; cases hh
    · rename_i n r hh
      cases hh
      cases h1
      simp only [Option.map_eq_some_iff] at h
      obtain ⟨bs', hb, rfl⟩ := h
      have := bytes_sim hF h2 hb (s.push (UInt8.ofNat n.toNat)) w
      simp only [List.forIn_cons, hF, Sem.run_bind, Sem.run_pure, Result.andThen_ok]
      rw [this]
      simp [ByteArray.push]
    · cases h

theorem conv_sim {φ : Phi} {g : Nat → Option LB} {w : World} {src dst : TypeId} {x x' v : Value} (hm : MRp φ g w) (h : lconv P g src dst x = some v) (hx : VR φ x x') :
    ∃ v', (convert src dst x').run P w = .ok v' w ∧ VR φ v v' := by
  unfold lconv at h
  split at h
  · rename_i d k n hs hd
    cases h; cases hx
    refine ⟨_, ?_, .int _ _⟩
    simp only [convert, Sem.run_bind, run_underlying hs, run_underlying hd, Result.andThen_ok]
    cases d <;> simp [Conv.intToInt]
  · rename_i d k a n m hs hd
    obtain ⟨g1, g2, j, i, g3, g4⟩ := clook_spec SymT.ok h
    have hx' := hx.den g1
    rw [g3] at hx'
    subst hx'
    refine ⟨.int k (k.wrap i), ?_, ?_⟩
    · simp only [convert, Sem.run_bind, run_underlying hs, run_underlying hd, Result.andThen_ok]
      cases d <;> simp [Conv.intToInt]
    · rw [← g4]
      exact VR.of_den (by cases v <;> first | rfl | (simp [isSc] at g2; done))
  · rename_i hs hd
    cases h; cases hx
    refine ⟨_, ?_, .string _⟩
    simp [convert, run_underlying hs, run_underlying hd]
  · rename_i e n c hs hd
    cases hx
    split at h
    · rename_i he
      cases h
      refine ⟨_, ?_, .string _⟩
      simp [convert, run_underlying hs, run_underlying hd, run_underlying he, Conv.bytesToString]
      rfl
    · cases h
  · rename_i e a n c hs hd
    split at h
    · rename_i he hc
      split at h
      · rename_i vs hr
        simp only [Option.map_eq_some_iff] at h
        obtain ⟨bs, hb, rfl⟩ := h
        cases hzz : isZ a.spot with
        | true => simp [hzz] at hc
        | false =>
        simp only [hzz, cond_false] at hc
        obtain ⟨l, o, cp', hl, rfl, ho, hbr⟩ := slice_cells hm hx hc
        obtain ⟨vs', h1, h2, _⟩ := row_any (P := P) hbr hr ho
        have h1 := h1 w rfl
        refine ⟨_, ?_, .string _⟩
        simp only [convert, Sem.run_bind, run_underlying hs, run_underlying hd, run_underlying he, Result.andThen_ok, Conv.bytesToString, h1]
        rw [← Array.forIn_toList, bytes_sim (P := P) (fun _ _ => rfl) h2 hb]
        simp
      · cases h
    · cases h
  · cases h

theorem fieldAddr_sim {φ : Phi} {w : World} {s : TypeId} {x x' v : Value} {f : Nat} (h : lfieldAddr P s x f = some v) (hx : VR φ x x') :
    ∃ v', (Instr.fieldAt s x' f).run P w = .ok v' w ∧ VR φ v v' := by
  unfold lfieldAddr at h
  split at h
  · rename_i fs b off hs
    split at h
    · rename_i fd hf
      split at h
      · rename_i i hi
        cases hz : Nat.beq i.size 0 with
        | true => rw [hz] at h; cases h
        | false =>
          rw [hz] at h
          simp only [cond_false, Option.some.injEq] at h
          subst h
          have hne : ¬ i.size = 0 := fun h0 => by rw [h0] at hz; cases hz
          have hf' : fs[f]? = some fd := by simpa using hf
          cases hx with
          | ptr _ _ l hl =>
            refine ⟨_, ?_, .ptr b (off + fd.offset) l hl⟩
            simp [Instr.fieldAt, run_underlying hs, hf', Instr.sureAddr, fieldPlace, run_sizeOf' hi, hne, addr_add, Nat.add_assoc]
          | pdead _ _ _ a hl =>
            refine ⟨_, ?_, .pdead b (off + fd.offset) none (a.add fd.offset) hl⟩
            simp [Instr.fieldAt, run_underlying hs, hf', Instr.sureAddr, fieldPlace, run_sizeOf' hi, hne]
      · cases h
    · cases h
  · cases h

theorem field_sim {φ : Phi} {w : World} {s : TypeId} {x x' v : Value} {f : Nat} (h : lfield P s x f = some v) (hx : VR φ x x') :
    ∃ v', (Instr.field s x' f).run P w = .ok v' w ∧ VR φ v v' := by
  unfold lfield at h
  split at h
  · rename_i fs cs hs
    split at h
    · rename_i fd hf
      have hf' : fs[f]? = some fd := by simpa using hf
      cases hx with
      | agg _ ys hy =>
        obtain ⟨v', h1, h2⟩ := part_sim hy h w
        exact ⟨v', by simp [Instr.field, run_underlying hs, hf', asAgg, h1], h2⟩
    · cases h
  · cases h

theorem linx_spec {len k : Nat} {i i' : Value} {φ : Phi} (h : linx len i = some k) (hi : VR φ i i') : ∃ (kd : IntKind) (n : Int), i' = .int kd n ∧ 0 ≤ n ∧ n < len ∧ n.toNat = k := by
  have _s := SymT.tab
  cases hi <;> simp only [linx] at h <;> try (cases h; done)
  rename_i kd n
  cases hc : (decide (0 ≤ n) && decide (n < (len : Int))) with
  | false => rw [hc] at h; cases h
  | true =>
    rw [hc] at h
    simp only [cond_true, Option.some.injEq] at h
    rw [Bool.and_eq_true, decide_eq_true_eq, decide_eq_true_eq] at hc
    exact ⟨kd, n, rfl, hc.1, hc.2, h⟩

theorem indexAddr_sim {φ : Phi} {w : World} {t : TypeId} {x x' i i' v : Value} (h : lindexAddr P t x i = some v) (hx : VR φ x x') (hi : VR φ i i') :
    ∃ v', (Instr.indexAt t x' i').run P w = .ok v' w ∧ VR φ v v' := by
  unfold lindexAddr at h
  split at h
  · rename_i len e b off ht
    split at h
    · rename_i k ie hk he
      cases h
      obtain ⟨kd, n, rfl, h0, h1, rfl⟩ := linx_spec hk hi
      cases hx with
      | ptr _ _ l hl =>
        refine ⟨_, ?_, .ptr b _ l hl⟩
        simp [Instr.indexAt, asIntOf, run_underlying ht, Instr.sureAddr, h0, h1, run_sizeOf' he, addr_add, Nat.add_assoc]
      | pdead _ _ _ a hl =>
        refine ⟨_, ?_, .pdead b _ none (a.add (n.toNat * ie.size)) hl⟩
        simp [Instr.indexAt, asIntOf, run_underlying ht, Instr.sureAddr, h0, h1, run_sizeOf' he]
    · cases h
  · rename_i e b off sp len cp ht
    split at h
    · rename_i k ie hk he
      cases h
      obtain ⟨kd, n, rfl, h0, h1, rfl⟩ := linx_spec hk hi
      cases hx with
      | slice _ _ _ _ _ cap' l hl =>
        refine ⟨_, ?_, .ptr b _ l hl⟩
        simp [Instr.indexAt, asIntOf, run_underlying ht, h0, h1, run_sizeOf' he, addr_add, Nat.add_assoc]
      | sdead _ _ _ _ _ cap' a hl =>
        refine ⟨_, ?_, .pdead b _ none (a.add (n.toNat * ie.size)) hl⟩
        simp [Instr.indexAt, asIntOf, run_underlying ht, h0, h1, run_sizeOf' he]
      | szero => omega
    · cases h
  · cases h

theorem index_sim {φ : Phi} {w : World} {t : TypeId} {x x' i i' v : Value} (h : lindex P t x i = some v) (hx : VR φ x x') (hi : VR φ i i') :
    ∃ v', (Instr.index t x' i').run P w = .ok v' w ∧ VR φ v v' := by
  unfold lindex at h
  split at h
  · rename_i len e cs ht
    split at h
    · rename_i k ie hk he
      obtain ⟨kd, n, rfl, h0, h1, rfl⟩ := linx_spec hk hi
      cases hx with
      | agg _ ys hy =>
        obtain ⟨v', h2, h3⟩ := part_sim hy h w
        exact ⟨v', by simp [Instr.index, asIntOf, run_underlying ht, h0, h1, run_sizeOf' he, h2], h3⟩
    · cases h
  · rename_i s ht
    cases hx
    split at h
    · rename_i kd n
      cases hi
      cases hc : decide (0 ≤ n) with
      | false => rw [hc] at h; cases h
      | true =>
        rw [hc] at h
        simp only [cond_true] at h
        have h0 := of_decide_eq_true hc
        split at h
        · rename_i b hb
          cases h
          refine ⟨_, ?_, .int _ _⟩
          have hb' : s[n.toNat]? = some b := by
            have : s.data[n.toNat]? = some b := by simpa using hb
            have hlt : n.toNat < s.data.size := (Array.getElem?_eq_some_iff.1 this).1
            have hlt' : n.toNat < s.size := hlt
            rw [getElem?_pos s n.toNat hlt']
            rw [getElem?_pos s.data n.toNat hlt] at this
            exact this
          simp [Instr.index, asIntOf, run_underlying ht, h0, hb']
        · cases h
    · cases h
  · cases h
end
end Go.Eng
