/- The contracts of strings.Join, where all contracts of the seat stand in one text. -/
import Derived.Test.YtacacibpehnmgaaGreatDoorShelf
