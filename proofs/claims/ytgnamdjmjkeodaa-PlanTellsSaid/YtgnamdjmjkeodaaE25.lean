/- The engine, part 25 (stands behind 18): what a value operation looks at; statements whose order is drawn. -/
import Derived.Test.YtgnamdjmjkeodaaE18
import Derived.Orders
namespace Go.Proofs.Ytgnamdjmjkeodaa
open Go

section
variable {P : Program} {ss : Specs} {S S' : St}

theorem evFill_congr {lh : Nat → Option LE} {fs : Array Field} {ρ ρ' : Operand → AV} : ∀ (ps : List (Nat × Operand)) (c : AV), (∀ y ∈ ps, ρ' y.2 = ρ y.2) → evFill P lh fs ρ' ps c = evFill P lh fs ρ ps c
  | [], _, _ => rfl
  | (i, x) :: ps, c, h => by
    have h1 := h (i, x) (by simp)
    simp only at h1
    simp only [evFill, h1]
    split
    · rfl
    · split
      · rfl
      · split
        · rfl
        · split
          · exact evFill_congr ps _ (fun y hy => h y (by simp [hy]))
          · rfl

theorem evBuild_congr {lh : Nat → Option LE} {t : TypeId} {ρ ρ' : Operand → AV} {ps : List (Nat × Operand)} (h : ∀ y ∈ ps, ρ' y.2 = ρ y.2) : evBuild P lh t ps ρ' = evBuild P lh t ps ρ := by
  unfold evBuild
  split
  · rfl
  · split
    · split
      · split
        · rw [evFill_congr ps _ h]
        · rfl
      · rfl
    · rfl

/-- A value operation looks at its operands and at the memory of the call's own alone. -/
theorem evV_congr {ctx : List (Nat × Bool)} {o : Oper} (hl : S'.lh = S.lh) (h : ∀ x ∈ o.op.operands, S'.val x = S.val x) : evV P ss S' ctx o = evV P ss S ctx o := by
  have hk : ∀ x ∈ o.op.operands, ∀ c, S'.look c x = S.look c x := fun x hx c => by unfold St.look; rw [h x hx]
  obtain ⟨dst, op, type, pos, after, guard⟩ := o
  simp only at h hk
  cases op with
  | move x => simp only [evV, hk x (by simp [Op.operands])]
  | assign x => simp only [evV, hk x (by simp [Op.operands])]
  | binOp op t x y yt => simp only [evV, hl, hk x (by simp [Op.operands]), hk y (by simp [Op.operands])]
  | unOp op t x => simp only [evV, hk x (by simp [Op.operands])]
  | convert a b x => simp only [evV, hk x (by simp [Op.operands])]
  | load t x => simp only [evV, hl, hk x (by simp [Op.operands])]
  | fieldAddr s x i => simp only [evV, hk x (by simp [Op.operands])]
  | indexAddr t x i => simp only [evV, hl, hk x (by simp [Op.operands]), hk i (by simp [Op.operands])]
  | index t x i => simp only [evV, hk x (by simp [Op.operands]), hk i (by simp [Op.operands])]
  | slice t x lo hi mx =>
    cases mx with
    | none =>
      have h1 : lo.map (S'.look ctx) = lo.map (S.look ctx) := by
        cases lo with
        | none => rfl
        | some l => simp only [Option.map_some, hk l (by simp [Op.operands])]
      have h2 : hi.map (S'.look ctx) = hi.map (S.look ctx) := by
        cases hi with
        | none => rfl
        | some l => simp only [Option.map_some, hk l (by simp [Op.operands])]
      simp only [evV, hl, hk x (by simp [Op.operands]), h1, h2]
    | some m => rfl
  | extract x n => simp only [evV, hk x (by simp [Op.operands])]
  | build t parts =>
    simp only [evV, hl]
    split
    · exact evBuild_congr (fun y hy => hk y.2 (by simp only [Op.operands, List.mem_toArray, List.mem_map]; exact ⟨y, hy, rfl⟩) ctx)
    · rfl
  | pick c x y =>
    cases c with
    | tmp g => simp only [evV, hk (.tmp g) (by simp [Op.operands]), hk x (by simp [Op.operands]), hk y (by simp [Op.operands])]
    | _ => rfl
  | call c =>
    obtain ⟨callee, args, argTypes⟩ := c
    have hargs : args.toList.map (S'.look ctx) = args.toList.map (S.look ctx) := List.map_congr_left fun x hx => hk x (by simp only [Op.operands, Call.operands, Array.mem_append]; exact .inr (by simpa using hx)) ctx
    have hmem : ∀ x ∈ args.toList, S'.look ctx x = S.look ctx x := fun x hx => hk x (by simp only [Op.operands, Call.operands, Array.mem_append]; exact .inr (by simpa using hx)) ctx
    cases callee with
    | value f =>
      cases f with
      | func f => simp only [evV, hl, hargs]
      | tmp t =>
        have ht := hk (.tmp t) (by simp [Op.operands, Call.operands]) ctx
        simp only [evV, hl, ht]
        split
        · split
          · rename_i x e
            rw [hmem x (by rw [e]; simp)]
          · rfl
        · rfl
      | _ => rfl
    | invoke r m => rfl
    | builtin b =>
      cases b <;> first
        | rfl
        | (simp only [evV, hl]
           split
           · rename_i x t e _
             rw [hmem x (by rw [e]; simp)]
           · rfl)
        | (simp only [evV]
           split
           · rename_i x xs e
             rw [e] at hargs hmem
             rw [hmem x (by simp)]
             have h9 : xs.map (S'.look ctx) = xs.map (S.look ctx) := by simpa [hmem x (by simp)] using hargs
             rw [h9]
           · rfl)
  | lookup t m x ok => simp only [evV, hl, hk m (by simp [Op.operands]), hk x (by simp [Op.operands])]
  | nilCheck x => simp only [evV, hk x (by simp [Op.operands])]
  | makeFunc f first caps =>
    have h1 : first.toList.map (S'.look ctx) = first.toList.map (S.look ctx) := List.map_congr_left fun x hx => hk x (by simp only [Op.operands, Array.mem_append]; exact .inl (by simpa using hx)) ctx
    have h2 : caps.toList.map (S'.look ctx) = caps.toList.map (S.look ctx) := List.map_congr_left fun x hx => hk x (by simp only [Op.operands, Array.mem_append]; exact .inr (by simpa using hx)) ctx
    cases f with
    | func f => simp only [evV, h1, h2]
    | _ => rfl
  | _ => rfl

theorem partsTys_congr {lh : Nat → Option LE} {T : Ty} {ρ ρ' : Operand → AV} : ∀ (ps : List (Nat × Operand)) (k : Nat), (∀ y ∈ ps, ρ' y.2 = ρ y.2) → partsTys lh T ρ' k ps = partsTys lh T ρ k ps
  | [], _, _ => rfl
  | (i, x) :: ps, k, h => by
    have h1 := h (i, x) (by simp)
    simp only at h1
    have ih := partsTys_congr (lh := lh) (T := T) ps (k + 1) (fun y hy => h y (by simp [hy]))
    simp only [partsTys, h1, ih]

theorem evRow_congr {ctx : List (Nat × Bool)} {o : Oper} (hl : S'.lh = S.lh) (h : ∀ x ∈ o.op.operands, S'.val x = S.val x) : evRow P S' ctx o = evRow P S ctx o := by
  have hk : ∀ x ∈ o.op.operands, ∀ c, S'.look c x = S.look c x := fun x hx c => by unfold St.look; rw [h x hx]
  obtain ⟨dst, op, type, pos, after, guard⟩ := o
  simp only at h hk
  cases op with
  | makeSlice t l c => simp only [evRow, hk l (by simp [Op.operands])]
  | buildSlice t len parts =>
    simp only [evRow, hl]
    have : ∀ T : Ty, partsTys S.lh T (S'.look ctx) 0 parts.toList = partsTys S.lh T (S.look ctx) 0 parts.toList := fun T =>
      partsTys_congr _ _ (fun y hy => hk y.2 (by simp only [Op.operands, List.mem_toArray, List.mem_map]; first | exact ⟨y, hy, rfl⟩ | (simp only [Array.mem_map]; exact ⟨y, by simpa using hy, rfl⟩)) ctx)
    simp only [this]
  | call c =>
    obtain ⟨callee, args, argTypes⟩ := c
    have hmem : ∀ x ∈ args.toList, S'.look ctx x = S.look ctx x := fun x hx => hk x (by simp only [Op.operands, Call.operands, Array.mem_append]; exact .inr (by simpa using hx)) ctx
    cases callee with
    | builtin b =>
      cases b <;> first
        | rfl
        | (simp only [evRow, hl]
           split
           · rename_i s x t t' e _
             rw [hmem s (by rw [e]; simp), hmem x (by rw [e]; simp)]
           · rfl)
    | _ => rfl
  | _ => rfl

theorem evX_congr {ctx : List (Nat × Bool)} {o : Oper} (hl : S'.lh = S.lh) (h : ∀ x ∈ o.op.operands, S'.val x = S.val x) : evX P S' ctx o = evX P S ctx o := by
  have hk : ∀ x ∈ o.op.operands, ∀ c, S'.look c x = S.look c x := fun x hx c => by unfold St.look; rw [h x hx]
  obtain ⟨dst, op, type, pos, after, guard⟩ := o
  simp only at h hk
  cases op with
  | binOp op t x y yt => simp only [evX, hl, hk x (by simp [Op.operands]), hk y (by simp [Op.operands])]
  | slice t x lo hi mx =>
    cases mx with
    | none =>
      have h1 : lo.map (S'.look ctx) = lo.map (S.look ctx) := by
        cases lo with
        | none => rfl
        | some l => simp only [Option.map_some, hk l (by simp [Op.operands])]
      have h2 : hi.map (S'.look ctx) = hi.map (S.look ctx) := by
        cases hi with
        | none => rfl
        | some l => simp only [Option.map_some, hk l (by simp [Op.operands])]
      simp only [evX, hl, hk x (by simp [Op.operands]), h1, h2]
    | some m => rfl
  | call c =>
    obtain ⟨callee, args, argTypes⟩ := c
    have hmem : ∀ x ∈ args.toList, S'.look ctx x = S.look ctx x := fun x hx => hk x (by simp only [Op.operands, Call.operands, Array.mem_append]; exact .inr (by simpa using hx)) ctx
    cases callee with
    | builtin b =>
      cases b <;> first
        | rfl
        | (simp only [evX]
           split
           · rename_i x t e _
             rw [hmem x (by rw [e]; simp)]
           · rfl)
    | _ => rfl
  | _ => rfl

theorem evA_congr {ctx : List (Nat × Bool)} {o : Oper} (hl : S'.lh = S.lh) (h : ∀ x ∈ o.op.operands, S'.val x = S.val x) : evA P ss S' ctx o = evA P ss S ctx o := by
  have hk : ∀ x ∈ o.op.operands, ∀ c, S'.look c x = S.look c x := fun x hx c => by unfold St.look; rw [h x hx]
  unfold evA
  rw [evV_congr hl h, evRow_congr hl h, evX_congr hl h]
  split
  · rfl
  split
  · rfl
  split
  · rfl
  obtain ⟨dst, op, type, pos, after, guard⟩ := o
  simp only at h hk
  cases op with
  | convert a b x => simp only [hl, hk x (by simp [Op.operands])]
  | call c =>
    obtain ⟨callee, args, argTypes⟩ := c
    have hargs : args.toList.map (S'.look ctx) = args.toList.map (S.look ctx) := List.map_congr_left fun x hx => hk x (by simp only [Op.operands, Call.operands, Array.mem_append]; exact .inr (by simpa using hx)) ctx
    cases callee with
    | value f =>
      cases f with
      | func f => simp only [hl, hargs]
      | tmp t =>
        have ht := hk (.tmp t) (by simp [Op.operands, Call.operands]) ctx
        simp only [hl, ht, hargs]
      | _ => rfl
    | _ => rfl
  | _ => rfl
end
end Go.Proofs.Ytgnamdjmjkeodaa
