import Derived.Test.YtpcfkjeikhehaaaDoorMRdI

/- Reading the plain bytes of a right message gives it back: the plain law of the frame's reader. -/
set_option linter.unusedSimpArgs false
set_option linter.unusedVariables false
namespace Go.Proofs.YtpcfkjeikhehaaaDoor
/-- A reader stands at these bytes, and nothing was wrong. -/
structure Sat (l : List UInt8) (s : Rs) (t : List UInt8) : Prop where
  er : s.er = 0
  bad : s.bad = false
  le : s.pl ≤ l.length
  eq : l.drop s.pl = t
variable {l t d : List UInt8} {s : Rs} {x : Nat} {c : UInt8}
theorem Sat.len (h : Sat l s t) : t.length = l.length - s.pl := by rw [← h.eq, List.length_drop]
theorem Sat.skip (h : Sat l s (d ++ t)) (h2 : s.pl + d.length ≤ l.length) : l.drop (s.pl + d.length) = t := by
  rw [← List.drop_drop, h.eq, List.drop_left]
theorem Sat.raw (h : Sat l s (d ++ t)) : (rawP l d.length s).1 = d ∧ Sat l (rawP l d.length s).2 t := by
  have hl := h.len
  rw [List.length_append] at hl
  have hle := h.le
  unfold rawP
  rw [if_pos ⟨h.er, by omega⟩]
  refine ⟨?_, h.er, h.bad, ?_, ?_⟩
  · show (l.drop s.pl).take d.length = d
    rw [h.eq, List.take_left]
  · show s.pl + d.length ≤ l.length
    omega
  · exact h.skip (by omega)
theorem Sat.u8 (h : Sat l s (c :: t)) : (u8P l s).1 = c ∧ Sat l (u8P l s).2 t := by
  have := Sat.raw (d := [c]) (t := t) (s := s) (l := l) h
  unfold u8P
  rw [show (1 : Nat) = [c].length from rfl, this.1]
  exact ⟨rfl, this.2⟩
theorem Sat.num (h : Sat l s (shortL x ++ t)) (hx : x < 18446744073709551616) : (numP l s).1 = x ∧ Sat l (numP l s).2 t := by
  have hl := h.len
  rw [List.length_append] at hl
  have hle := h.le
  have hk : longL (l.drop s.pl) = some (x, (shortL x).length) := by rw [h.eq]; exact long_short x t hx
  unfold numP longN
  rw [hk]
  refine ⟨rfl, h.er, ?_, ?_, ?_⟩
  · simp [h.bad]
  · simp only [h.er, if_true, Option.getD_some]; omega
  · simp only [h.er, if_true, Option.getD_some]; exact h.skip (by omega)
theorem Sat.many {n : Nat} (h : Sat l s (shortL x ++ t)) (hx : x < 18446744073709551616) (hn : x ≤ n) : (manyP l n s).1 = x ∧ Sat l (manyP l n s).2 t := by
  obtain ⟨h1, h2⟩ := h.num hx
  unfold manyP
  rw [if_neg (by rw [h2.bad, h1]; simp; omega)]
  exact ⟨h1, h2⟩
theorem boolL_one (b : Bool) : decide (boolL b = 1) = b ∧ ¬ 1 < (boolL b).toNat := by cases b <;> decide
theorem Sat.voice {b : Bool} (m : Ms) (h : Sat l s (boolL b :: t)) : (voiceP l s m).2 = { m with ok := b } ∧ Sat l (voiceP l s m).1 t := by
  obtain ⟨h1, h2⟩ := h.u8
  unfold voiceP
  rw [h1, (boolL_one b).1]
  refine ⟨rfl, h2.er, ?_, h2.le, h2.eq⟩
  simp [h2.bad, (boolL_one b).2]
theorem Sat.place {a b : UInt64} (m : Ms) (h : Sat l s (shortL a.toNat ++ (shortL b.toNat ++ t))) : (placeP l s m).2 = { m with pi := a, pt := b } ∧ Sat l (placeP l s m).1 t := by
  obtain ⟨h1, h2⟩ := h.num a.toNat_lt
  obtain ⟨h3, h4⟩ := h2.num b.toNat_lt
  unfold placeP
  rw [h1, h3, UInt64.ofNat_toNat, UInt64.ofNat_toNat]
  exact ⟨rfl, h4⟩
theorem Sat.agreed {a : UInt64} (m : Ms) (h : Sat l s (shortL a.toNat ++ t)) : (agreedP l s m).2 = { m with cm := a } ∧ Sat l (agreedP l s m).1 t := by
  obtain ⟨h1, h2⟩ := h.num a.toNat_lt
  unfold agreedP
  rw [h1, UInt64.ofNat_toNat]
  exact ⟨rfl, h2⟩
theorem Sat.data (m : Ms) (h : Sat l s (shortL d.length ++ (d ++ t))) (hd : d.length ≤ 65536) : (dataP l s m).2 = { m with da := d } ∧ Sat l (dataP l s m).1 t := by
  obtain ⟨h1, h2⟩ := h.many (n := 65536) (by omega) hd
  obtain ⟨h3, h4⟩ := h2.raw
  unfold dataP
  rw [h1]
  exact ⟨by rw [h3], h4⟩
theorem byteI_nat {n : Int} (h0 : 0 ≤ n) (h : n ≤ 255) : ((byteI n).toNat : Int) = n := by
  unfold byteI
  rw [UInt8.toNat_ofNat_of_lt' (by show _ < 256; omega)]
  omega
theorem Sat.ent {e : En} {u : UInt64} (h : Sat l s (entL u e ++ t)) (he : wellE e = true) : (entP l u s).1 = e ∧ Sat l (entP l u s).2 t := by
  have hk := wellE_kind he
  have hd := wellE_len he
  unfold entL at h
  simp only [List.append_assoc, List.cons_append] at h
  obtain ⟨h1, h2⟩ := h.num (e.1 - u).toNat_lt
  obtain ⟨h3, h4⟩ := h2.u8
  obtain ⟨h5, h6⟩ := h4.many (n := 65536) (by omega) (by omega)
  obtain ⟨h7, h8⟩ := h6.raw
  unfold entP
  simp only
  rw [h1, h3, h5]
  refine ⟨?_, h8⟩
  obtain ⟨a, b, c⟩ := e
  rw [h7, UInt64.ofNat_toNat, byteI_nat (by omega) (by omega)]
  have : u + (a - u) = a := by
    rw [UInt64.add_comm]; simp
  simp only [this]
theorem Sat.ents : ∀ (es : List En) (u : UInt64) (s : Rs) (t : List UInt8), Sat l s (entsL u es ++ t) → standE es u = true → (entsP l es.length u s).1 = es ∧ Sat l (entsP l es.length u s).2 t
  | [], u, s, t, h, _ => ⟨rfl, h⟩
  | e :: es, u, s, t, h, hs => by
    simp only [standE, Bool.and_eq_true, decide_eq_true_eq] at hs
    rw [entsL, List.append_assoc] at h
    obtain ⟨h1, h2⟩ := h.ent hs.1.1
    rw [List.length_cons, entsP, h1]
    obtain ⟨h3, h4⟩ := Sat.ents es e.1 _ t h2 hs.2
    exact ⟨by rw [h3], h4⟩
theorem Sat.entries {es : List En} (m : Ms) (h : Sat l s (shortL es.length ++ (entsL m.pt es ++ t))) (h0 : m.es = []) (hn : es.length ≤ 8) (hs : standE es m.pt = true) : (entriesP l s m).2 = { m with es := es } ∧ Sat l (entriesP l s m).1 t := by
  obtain ⟨h1, h2⟩ := h.many (n := 8) (by omega) hn
  obtain ⟨h3, h4⟩ := Sat.ents es m.pt _ t h2 hs
  unfold entriesP
  rw [h1, h0, List.nil_append]
  exact ⟨by rw [h3], h4⟩
theorem Sat.bytes : ∀ (mb : List Int) (s : Rs) (t : List UInt8), Sat l s (mb.map byteI ++ t) → mb.all (fun n => decide (1 ≤ n) && decide (n ≤ 255)) = true → (bytesP l mb.length s).1 = mb ∧ Sat l (bytesP l mb.length s).2 t
  | [], s, t, h, _ => ⟨rfl, h⟩
  | a :: mb, s, t, h, hs => by
    simp only [List.all_cons, Bool.and_eq_true, decide_eq_true_eq] at hs
    rw [List.map_cons, List.cons_append] at h
    obtain ⟨h1, h2⟩ := h.u8
    obtain ⟨h3, h4⟩ := Sat.bytes mb _ t h2 hs.2
    rw [List.length_cons, bytesP, h1, h3, byteI_nat (by omega) (by omega)]
    exact ⟨rfl, h4⟩
theorem Sat.members {mb : List Int} (m : Ms) (h : Sat l s (shortL mb.length ++ (mb.map byteI ++ t))) (h0 : m.mb = []) (hn : mb.length ≤ 5) (hs : mb.all (fun n => decide (1 ≤ n) && decide (n ≤ 255)) = true) : (membersP l s m).2 = { m with mb := mb } ∧ Sat l (membersP l s m).1 t := by
  obtain ⟨h1, h2⟩ := h.many (n := 5) (by omega) hn
  obtain ⟨h3, h4⟩ := Sat.bytes mb _ t h2 hs
  unfold membersP
  rw [h1, h0, List.nil_append]
  exact ⟨by rw [h3], h4⟩
section
variable (l : List UInt8)
theorem fieldP_no (i : Nat) (x : Rs × Ms) (hi : i < 6) (h : hasF i x.2.kd = false) : fieldP l i x = x := by rw [fieldP_eq l i hi, h]; rfl
theorem fieldP_y0 (x : Rs × Ms) (h : hasF 0 x.2.kd = true) : fieldP l 0 x = voiceP l x.1 x.2 := by rw [fieldP_eq l 0 (by omega), h]; rfl
theorem fieldP_y1 (x : Rs × Ms) (h : hasF 1 x.2.kd = true) : fieldP l 1 x = placeP l x.1 x.2 := by rw [fieldP_eq l 1 (by omega), h]; rfl
theorem fieldP_y2 (x : Rs × Ms) (h : hasF 2 x.2.kd = true) : fieldP l 2 x = agreedP l x.1 x.2 := by rw [fieldP_eq l 2 (by omega), h]; rfl
theorem fieldP_y3 (x : Rs × Ms) (h : hasF 3 x.2.kd = true) : fieldP l 3 x = entriesP l x.1 x.2 := by rw [fieldP_eq l 3 (by omega), h]; rfl
theorem fieldP_y4 (x : Rs × Ms) (h : hasF 4 x.2.kd = true) : fieldP l 4 x = membersP l x.1 x.2 := by rw [fieldP_eq l 4 (by omega), h]; rfl
theorem fieldP_y5 (x : Rs × Ms) (h : hasF 5 x.2.kd = true) : fieldP l 5 x = dataP l x.1 x.2 := by rw [fieldP_eq l 5 (by omega), h]; rfl
theorem fields6 (x : Rs × Ms) : fieldsP l 6 x = fieldP l 5 (fieldP l 4 (fieldP l 3 (fieldP l 2 (fieldP l 1 (fieldP l 0 x))))) := rfl
end
theorem read_plain {m : Ms} (hr : rightM m = true) : readP (plainM m) = m := by
  obtain ⟨⟨a1, a2⟩, zx, ⟨a3, a4, a5, a6⟩, a7, a8, a9, a10, a11⟩ := rightM_spec hr
  obtain ⟨rest, hrest⟩ : ∃ rest, rest = optL (hasO m.kd) [boolL m.ok] ++ optL (hasP m.kd) (shortL m.pi.toNat ++ shortL m.pt.toNat) ++ optL (hasC m.kd) (shortL m.cm.toNat) ++
    optL (hasE m.kd) (shortL m.es.length ++ entsL m.pt m.es) ++ optL (hasM m.kd) (shortL m.mb.length ++ m.mb.map byteI) ++ optL (hasD m.kd) (shortL m.da.length ++ m.da) := ⟨_, rfl⟩
  have hp : plainM m = byteI m.kd :: byteI (16 * m.fr + m.to) :: (shortL m.tm.toNat ++ rest) := by
    rw [hrest]; unfold plainM; simp [List.append_assoc]
  have h0 : Sat (plainM m) ⟨0, 0, false⟩ (byteI m.kd :: byteI (16 * m.fr + m.to) :: (shortL m.tm.toNat ++ rest)) := ⟨rfl, rfl, Nat.zero_le _, by rw [← hp]; rfl⟩
  obtain ⟨u1, h1⟩ := h0.u8
  obtain ⟨u2, h2⟩ := h1.u8
  obtain ⟨u3, h3⟩ := h2.num m.tm.toNat_lt
  generalize plainM m = l at *
  unfold readP headP
  simp only
  have e1 := byteI_nat (n := m.kd) (by omega) (by omega)
  have e2 := byteI_nat (n := 16 * m.fr + m.to) (by omega) (by omega)
  rw [u1, u2, u3, UInt64.ofNat_toNat, if_neg (by omega), e1]
  rw [show ((((byteI (16 * m.fr + m.to)).toNat / 16 : Nat) : Nat) : Int) = m.fr by omega, show ((((byteI (16 * m.fr + m.to)).toNat % 16 : Nat) : Nat) : Int) = m.to by omega]
  generalize (numP l (u8P l (u8P l ⟨0, 0, false⟩).2).2).2 = s3 at *
  clear h0 h1 h2 u1 u2 u3 hp e1 e2
  obtain ⟨kd, fr, to, tm, pi, pt, es, cm, ok, mb, da⟩ := m
  simp only at a1 a2 a7 a8 a9 a10 a11 zx hrest h3 ⊢
  simp only [zeroM, Bool.and_eq_true, Bool.or_eq_true, beq_iff_eq, Bool.not_eq_true', decide_eq_true_eq] at zx
  obtain ⟨⟨⟨⟨⟨x1, x2⟩, x3⟩, x4⟩, x5⟩, x6⟩ := zx
  have hk : kd = 1 ∨ kd = 2 ∨ kd = 3 ∨ kd = 4 ∨ kd = 5 := by omega
  rcases hk with rfl | rfl | rfl | rfl | rfl
  all_goals
    simp [optL, hasO, hasP, hasC, hasE, hasM, hasD] at hrest x1 x2 x3 x4 x5 x6
    subst hrest
    rw [fields6]
  · obtain ⟨p1, p2⟩ := Sat.place (t := []) (a := pi) (b := pt) { noM with kd := 1, fr := fr, to := to, tm := tm } (by simpa using h3)
    rw [fieldP_no l 0 _ (by omega) rfl, fieldP_y1 l _ rfl]
    generalize placeP l s3 _ = y at *
    rw [fieldP_no l 2 _ (by omega) (by rw [p1]; rfl), fieldP_no l 3 _ (by omega) (by rw [p1]; rfl), fieldP_no l 4 _ (by omega) (by rw [p1]; rfl), fieldP_no l 5 _ (by omega) (by rw [p1]; rfl), p1]
    simp_all [noM]
  · obtain ⟨p1, p2⟩ := Sat.voice (t := []) (b := ok) { noM with kd := 2, fr := fr, to := to, tm := tm } (by simpa using h3)
    rw [fieldP_y0 l _ rfl]
    generalize voiceP l s3 _ = y at *
    rw [fieldP_no l 1 _ (by omega) (by rw [p1]; rfl), fieldP_no l 2 _ (by omega) (by rw [p1]; rfl), fieldP_no l 3 _ (by omega) (by rw [p1]; rfl), fieldP_no l 4 _ (by omega) (by rw [p1]; rfl), fieldP_no l 5 _ (by omega) (by rw [p1]; rfl), p1]
    simp_all [noM]
  · obtain ⟨p1, p2⟩ := Sat.place (t := shortL cm.toNat ++ (shortL es.length ++ (entsL pt es ++ []))) (a := pi) (b := pt) { noM with kd := 3, fr := fr, to := to, tm := tm } (by simpa using h3)
    rw [fieldP_no l 0 _ (by omega) rfl, fieldP_y1 l _ rfl]
    generalize placeP l s3 _ = y at *
    obtain ⟨p3, p4⟩ := Sat.agreed y.2 p2
    rw [fieldP_y2 l _ (by rw [p1]; rfl)]
    generalize agreedP l y.1 y.2 = z at *
    rw [p1] at p3
    obtain ⟨p5, p6⟩ := Sat.entries (es := es) z.2 (by rw [p3]; exact p4) (by rw [p3]; rfl) a7 (by rw [p3]; exact a11)
    rw [fieldP_y3 l _ (by rw [p3]; rfl)]
    generalize entriesP l z.1 z.2 = q at *
    rw [p3] at p5
    rw [fieldP_no l 4 _ (by omega) (by rw [p5]; rfl), fieldP_no l 5 _ (by omega) (by rw [p5]; rfl), p5]
    simp_all [noM]
  · obtain ⟨p1, p2⟩ := Sat.voice (t := shortL pi.toNat ++ (shortL pt.toNat ++ [])) (b := ok) { noM with kd := 4, fr := fr, to := to, tm := tm } (by simpa using h3)
    rw [fieldP_y0 l _ rfl]
    generalize voiceP l s3 _ = y at *
    obtain ⟨p3, p4⟩ := Sat.place y.2 p2
    rw [fieldP_y1 l _ (by rw [p1]; rfl)]
    generalize placeP l y.1 y.2 = z at *
    rw [p1] at p3
    rw [fieldP_no l 2 _ (by omega) (by rw [p3]; rfl), fieldP_no l 3 _ (by omega) (by rw [p3]; rfl), fieldP_no l 4 _ (by omega) (by rw [p3]; rfl), fieldP_no l 5 _ (by omega) (by rw [p3]; rfl), p3]
    simp_all [noM]
  · obtain ⟨p1, p2⟩ := Sat.place (t := shortL mb.length ++ (mb.map byteI ++ (shortL da.length ++ (da ++ [])))) (a := pi) (b := pt) { noM with kd := 5, fr := fr, to := to, tm := tm } (by simpa using h3)
    rw [fieldP_no l 0 _ (by omega) rfl, fieldP_y1 l _ rfl]
    generalize placeP l s3 _ = y at *
    rw [fieldP_no l 2 _ (by omega) (by rw [p1]; rfl), fieldP_no l 3 _ (by omega) (by rw [p1]; rfl), fieldP_y4 l _ (by rw [p1]; rfl)]
    obtain ⟨p3, p4⟩ := Sat.members (mb := mb) y.2 p2 (by rw [p1]; rfl) a8 a10
    generalize membersP l y.1 y.2 = z at *
    rw [p1] at p3
    obtain ⟨p5, p6⟩ := Sat.data (d := da) z.2 p4 a9
    rw [fieldP_y5 l _ (by rw [p3]; rfl)]
    generalize dataP l z.1 z.2 = q at *
    rw [p3] at p5
    rw [p5]
    simp_all [noM]
end Go.Proofs.YtpcfkjeikhehaaaDoor
